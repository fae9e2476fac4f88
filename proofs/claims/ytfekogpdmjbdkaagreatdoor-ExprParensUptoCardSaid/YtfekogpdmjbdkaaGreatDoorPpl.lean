/- The data level and the contracts of the functions that are reached (part 12). -/
import Derived.Test.YtfekogpdmjbdkaaGreatDoorPpk
set_option linter.unusedSimpArgs false
set_option linter.unusedVariables false
set_option linter.unusedSectionVars false
-- Chapter 3: slices.Grow and slices.Concat at tokens.
namespace Go.Dl
open Go Go.Proofs
set_option maxRecDepth 100000
def zTok : List DVal := [.int .u8 0, .int .i64 0, .str [], .int .i64 0]
theorem growT_nil (G : Nat → DVal) (n : Nat) (H : DHeap) (hn : n ≤ 1000000000) : DCalls Tryz.prog G 86 [.nilSlice, dI n] H fun e H' =>
  (n = 0 ∧ e = .ret .nilSlice ∧ H' = H) ∨ (n ≠ 0 ∧ ∃ r, H r = none ∧ e = .ret (.oslice 4 r 0 0 n) ∧ H' = upd H r (some (.cells (repl n zTok) 52))) := by
 refine dcalls_intro Tryz.func86 Tryz.call86 rfl (by kernel_rfl) ?_;by_cases h0 : n = 0
 ·subst h0;simp (disch := omega) only [go_sem];exact DFin.refl (.inl ⟨rfl, rfl⟩)
 ·simp (disch := omega) only [go_sem];intro _;intro r hr; dsimp only at hr;simp (disch := omega) only [go_sem];exact DFin.refl (.inr ⟨r, hr, by simp, rfl⟩)
theorem flatT_take (q : List (List Tok)) (k : Nat) (h : k < q.length) : (q.take (k + 1)).flatten = (q.take k).flatten ++ q[k] := by
 rw [List.take_add_one, List.getElem?_eq_getElem h, List.flatten_append]; simp
theorem flatT_take_le (q : List (List Tok)) (k : Nat) : (q.take k).flatten.length ≤ q.flatten.length := by
 have : q.flatten = (q.take k).flatten ++ (q.drop k).flatten := by rw [← List.flatten_append, List.take_append_drop]
 rw [this]; simp
theorem repl_drop (m t : Nat) (z : List DVal) : (repl m z).drop (t * z.length) = repl (m - t) z := by
 by_cases h : t ≤ m
 ·obtain ⟨k, rfl⟩ := Nat.exists_eq_add_of_le h;have : repl (t + k) z = repl t z ++ repl k z := by unfold repl; rw [← List.replicate_append_replicate, List.flatten_append]
  rw [this, List.drop_left' (repl_length t z), Nat.add_sub_cancel_left]
 ·rw [List.drop_of_length_le (by rw [repl_length]; exact Nat.mul_le_mul_right _ (by omega)), Nat.sub_eq_zero_of_le (by omega)]; rfl
theorem splice_end (a R b : List DVal) : splice (a ++ R) a.length b = (a ++ b) ++ R.drop b.length := by
 unfold splice;rw [List.take_left, List.drop_append, List.drop_of_length_le (by omega)];simp
def FillT (H : DHeap) (T : Nat) (ts : List Tok) (v : DVal) (heap : DHeap) : Prop :=
 (T = 0 ∧ v = .nilSlice ∧ heap = H) ∨ (T ≠ 0 ∧ ∃ r, H r = none ∧ v = .oslice 4 r 0 ts.length T ∧ heap = upd H r (some (.cells (ts.flatMap dTok ++ repl (T - ts.length) zTok) 52)))
set_option maxHeartbeats 4000000 in
theorem concatT_ownA (G : Nat → DVal) (q : List (List Tok)) (H : DHeap) (hq : q.length ≤ 1000000) (hl : q.flatten.length ≤ 100000000) : DCalls Tryz.prog G 33 [dTss q] H fun e H' => ∃ v, e = .ret v ∧ OwnA H 52 4 q.flatten.length (q.flatten.flatMap dTok) v H' := by
 refine dcalls_intro Tryz.func33 Tryz.call33 rfl (by kernel_rfl) ?_;simp (disch := omega) only [go_sem];obtain ⟨I, hI⟩ : ∃ I : Nat → (Nat → DVal) → DHeap → Prop, ∀ k env heap, I k env heap ↔ (H = heap ∧ env 0 = dTss q ∧ env 9 = dTss q ∧ env 10 = dI q.length ∧ env 11 = dI k ∧ env 3 = dI (q.take k).flatten.length ∧ k ≤ q.length) := ⟨_, fun _ _ _ => Iff.rfl⟩;refine DLoop.run I (fun k => q.length - k) 0 ((hI _ _ _).2 ?_) ?_
 ·simp (disch := omega) only [go_sem, dTss];simp
 ·intro k env heap hk;obtain ⟨rfl, h0, h9, h10, h11, h3, hk⟩ := (hI _ _ _).1 hk;have hml : (q.map dToks).length = q.length := List.length_map _;by_cases hlt : k < q.length
  ·have hlt' : (k : Int) < (q.length : Int) := by omega
   have h1 := flatT_take q k hlt;have h2 := flatT_take_le q (k + 1);have hget : (q.map dToks)[k]? = some (dToks q[k]) := by rw [List.getElem?_map, List.getElem?_eq_getElem hlt]; rfl
   have hw1 : IntKind.i64.wrap ((k : Int) + 1) = ((k + 1 : Nat) : Int) := by rw [IntKind.wrap_i64]; omega
   rw [h1, List.length_append] at h2;have hw2 : IntKind.i64.wrap (((q.take k).flatten.length : Int) + (q[k].length : Int)) = ((q.take k).flatten.length : Int) + (q[k].length : Int) := by rw [IntKind.wrap_i64]; omega
   have hw3 : ¬ (((q.take k).flatten.length : Int) + (q[k].length : Int)) < 0 := by omega
   simp (disch := omega) only [go_sem, h0, h9, h10, h11, h3, hlt', dTss, hget, hml, Int.toNat_natCast, dToks, hw2, hw3];refine ⟨k + 1, _, GhostS.refl _, (hI _ _ _).2 ?_, by omega⟩;simp (disch := omega) only [go_sem, h0, h9, h10, h11, h3, hw1];(repeat' apply And.intro) <;> (try first | rfl | assumption | omega);rw [h1, List.length_append, Int.natCast_add]
  ·have hkq : k = q.length := by omega
   subst hkq;have hlt' : ¬ (q.length : Int) < (q.length : Int) := by omega
   rw [List.take_length] at h3;simp (disch := omega) only [go_sem, h0, h9, h10, h11, h3, hlt'];refine (growT_nil G q.flatten.length H (by omega)).mono ?_;rintro e H1 hg;obtain ⟨v, rfl, hv⟩ : ∃ v, e = .ret v ∧ FillT H q.flatten.length [] v H1 := by
    rcases hg with ⟨a, b, c⟩ | ⟨a, r, b, c, d⟩
    ·exact ⟨_, b, .inl ⟨a, rfl, c⟩⟩
    ·exact ⟨_, c, .inr ⟨a, r, b, rfl, by rw [d]; rfl⟩⟩
   clear hg;simp (disch := omega) only [go_sem, h0, h9, h10, h11, h3];obtain ⟨J, hJ⟩ : ∃ J : Nat → (Nat → DVal) → DHeap → Prop, ∀ k env heap, J k env heap ↔ (env 0 = dTss q ∧ env 25 = dTss q ∧ env 26 = dI q.length ∧ env 27 = dI k ∧ k ≤ q.length ∧ FillT H q.flatten.length (q.take k).flatten (env 6) heap) := ⟨_, fun _ _ _ => Iff.rfl⟩;refine DLoop.run J (fun k => q.length - k) 0 ((hJ _ _ _).2 ?_) ?_
   ·simp (disch := omega) only [go_sem, h0, dTss];(repeat' apply And.intro) <;> (try first | rfl | assumption | omega)
   ·intro k env H1 hk;obtain ⟨h0, h25, h26, h27, hk, hv⟩ := (hJ _ _ _).1 hk;by_cases hlt : k < q.length
    ·have hlt' : (k : Int) < (q.length : Int) := by omega
     have h1 := flatT_take q k hlt;have h2 := flatT_take_le q (k + 1);have hget : (q.map dToks)[k]? = some (dToks q[k]) := by rw [List.getElem?_map, List.getElem?_eq_getElem hlt]; rfl
     have hw1 : IntKind.i64.wrap ((k : Int) + 1) = ((k + 1 : Nat) : Int) := by rw [IntKind.wrap_i64]; omega
     rw [h1, List.length_append] at h2;obtain ⟨ts, hts⟩ : ∃ ts, ts = q[k] := ⟨_, rfl⟩;rw [← hts] at hget h1 h2;have hnl := flat_len dTok_len ts;have hft := toks_take_all ts;have hone := toks_all_one ts;rcases hv with ⟨hT, h6, rfl⟩ | ⟨hT, r, hr, h6, rfl⟩
     ·have h5 : ts.length = 0 := by omega
      simp (disch := omega) only [go_sem, h0, h25, h26, h27, h6, h5, hlt', dTss, hget, hml, Int.toNat_natCast, dToks, hft, hone, hnl];refine ⟨k + 1, _, GhostS.refl _, (hJ _ _ _).2 ?_, by omega⟩;simp (disch := omega) only [go_sem, h0, h25, h26, h27, h6, h5, hw1];(repeat' apply And.intro) <;> (try first | rfl | assumption | omega);exact .inl ⟨hT, rfl, rfl⟩
     ·simp (disch := omega) only [go_sem, h0, h25, h26, h27, h6, hlt', dTss, hget, hml, Int.toNat_natCast, dToks, hft, hone, hnl];refine ⟨by rw [List.length_append, flat_len dTok_len, repl_length]; show _ ≤ _ + _ * 4; omega, k + 1, _, GhostS.refl _, (hJ _ _ _).2 ?_, by omega⟩;simp (disch := omega) only [go_sem, h0, h25, h26, h27, h6, hw1];(repeat' apply And.intro) <;> (try first | rfl | assumption | omega);refine .inr ⟨hT, r, hr, by rw [h1, List.length_append], ?_⟩;have hsp := splice_end ((q.take k).flatten.flatMap dTok) (repl (q.flatten.length - (q.take k).flatten.length) zTok) (ts.flatMap dTok);rw [flat_len dTok_len, hnl, show ts.length * 4 = ts.length * zTok.length from rfl, repl_drop] at hsp;rw [hsp, h1, List.flatMap_append, List.length_append, Nat.sub_add_eq]
    ·have hkq : k = q.length := by omega
     subst hkq;have hlt' : ¬ (q.length : Int) < (q.length : Int) := by omega
     rw [List.take_length] at hv;simp (disch := omega) only [go_sem, h0, h25, h26, h27, hlt'];rcases hv with ⟨hT, h6, rfl⟩ | ⟨hT, r, hr, h6, rfl⟩
     ·simp (disch := omega) only [go_sem, h6];have : q.flatten = [] := List.length_eq_zero_iff.1 hT;exact DFin.refl ⟨_, rfl, by rw [this]; exact .inl ⟨rfl, rfl, rfl, rfl⟩⟩
     ·simp (disch := omega) only [go_sem, h6];refine DFin.refl ⟨_, rfl, .inr ⟨r, hr, flat_len dTok_len _, rfl, ?_⟩⟩;rw [Nat.sub_self]; simp [repl]
theorem toks_loose (ts : List Tok) : loose.looses (ts.flatMap dTok) = true := by
 rw [looses_iff];intro d hd;obtain ⟨t, _, hd⟩ := List.mem_flatMap.1 hd;have : ∀ d ∈ dTok t, loose d = true := by
  rw [show dTok t = [.int .u8 t.kind, .int .i64 t.line, .str t.text, .int .i64 t.n] from rfl];intro d hd;simp only [List.mem_cons, List.not_mem_nil, or_false] at hd;rcases hd with rfl | rfl | rfl | rfl <;> rfl
 exact this d hd
theorem OwnA.looseT {e : TypeId} {size n : Nat} {cs : List DVal} {v : DVal} {X : DHeap} (h : OwnA h0 e size n cs v X) (hl : loose.looses cs = true) : Dl.loose v = true ∧ Loose h0 X := by
 rcases h with ⟨_, _, rfl, rfl⟩ | ⟨r, _, _, rfl, rfl⟩
 ·exact ⟨rfl, Loose.refl _⟩
 ·exact ⟨rfl, (Loose.refl h0).upd hl⟩
theorem OwnA.over0 {e : TypeId} {size n : Nat} {cs : List DVal} {v : DVal} {H X : DHeap} (h : OwnA h0 e size n cs v X) (hd : Disj H X) : OwnJ H e size n cs v (over H X) := by
 have key : Sub H (over H X) := fun b o hb => by rw [over_hi (hd.x (by rw [hb]; simp))]; exact hb
 rcases h with ⟨rfl, rfl, rfl, rfl⟩ | ⟨r, _, hl, rfl, rfl⟩
 ·exact .inl ⟨rfl, rfl, rfl, key⟩
 ·exact .inr ⟨r, hd r (by rw [upd_same]; simp), hl, rfl, by rw [over_x (upd_same _ _ _)], key⟩
theorem Seens.lentA {P : Program} {G : Nat → DVal} {f : FuncId} {args args' : List DVal} {H' : DHeap} {ty : TypeId} {size n : Nat} {cs : List DVal} (h : Seens H' args h0 args') (k : DCalls P G f args' h0 fun e X => ∃ v, e = .ret v ∧ OwnA h0 ty size n cs v X) (hl : loose.looses cs = true) :
  DCalls P G f args H' fun e H2 => ∃ v, e = .ret v ∧ OwnJ H' ty size n cs v H2 :=
 (k.frame (fun w vs hw hr => h w hw vs hr) (fun e X ⟨v, hv, ho⟩ => ⟨v, hv, (ho.looseT hl).1, (ho.looseT hl).2⟩)).mono fun e H2 ⟨X, ⟨v, hv, ho⟩, hd, hH⟩ => ⟨v, hv, by rw [hH]; exact ho.over0 hd⟩
end Go.Dl

-- Chapter 3: ExprParens.
namespace Go.Dl
open Go Go.Proofs
set_option maxRecDepth 100000
theorem fT_of_fit {l : List Tok} (h : TokFit l) : fT l := fun t ht => by
 obtain ⟨k, hk, rfl⟩ := List.getElem_of_mem ht;have := h k;simpa [tk, List.getD, hk] using this
section
variable {G : Nat → DVal}
set_option maxHeartbeats 8000000 in
theorem exprParens_spec (hG : GX G) (H : DHeap) (a : Ex) (more : List Tok) (w : Nat) (ha : FitE a) (hT' : TokFit more) (hw : w < 256) :
  DCalls Tryz.prog G 6 [.agg (dEx a), dToks more, .int .u8 w] H (DRet (.bool true) H) := by
 have hA := ha.1;have hT := fT_of_fit hT';refine dcalls_intro Tryz.func6 Tryz.call6 rfl (by kernel_rfl) ?_;simp (disch := omega) only [go_sem, DVal.cells];intro r3 hr3; dsimp only at hr3;obtain ⟨K, hK⟩ : ∃ K', K' = upd H r3 (some (.cells (dEx a) 27)) := ⟨_, rfl⟩;rw [← hK];have gr3 : K r3 = some (.cells (dEx a) 27) := by rw [hK]; exact upd_same _ _ _
 have sK : Sub H K := by rw [hK]; exact (Sub.refl _).new hr3 _
 simp (disch := omega) only [go_sem, gr3];refine DCalls.monoR (tokens_spec hG K a ha.fit) ?_;simp (disch := omega) only [go_sem, gr3];refine DCalls.monoR (rmay_spec G K a (by omega)) ?_;cases hm : mayE a with
 | false =>
  simp (disch := omega) only [go_sem];refine DCalls.monoR (awake_spec hG K) ?_;try simp (disch := omega) only [go_sem]
  exact DFin.sub sK (.refl ⟨rfl, rfl⟩)
 | true =>
  have htk : tokensE a = (toksE a, 0) := by rw [tokensE, hm]; rfl
  have hlen := may_len hm;rw [htk];by_cases h50 : (50 : Int) < (more.length : Int)
  ·simp (disch := omega) only [go_sem, dToks, h50];refine DCalls.monoR (awake_spec hG K) ?_;try simp (disch := omega) only [go_sem]
   exact DFin.sub sK (.refl ⟨rfl, rfl⟩)
  ·simp (disch := omega) only [go_sem, dToks, h50];intro r9 hr9; dsimp only at hr9;simp (disch := omega) only [go_sem];intro r10 hr10; dsimp only at hr10;simp (disch := omega) only [go_sem];have n9 : r9 ≠ r10 := none_ne hr10 (upd_same _ _ _);have m9 := n9.symm;simp (disch := omega) only [go_sem, n9, m9];have k10 : K r10 = none := by rw [upd_ne _ _ _ _ m9] at hr10; exact hr10
   obtain ⟨L, hL⟩ : ∃ L, L = upd (upd (upd (upd K r9 (some (.cells [.int .u8 0, .int .i64 0, .str [], .int .i64 0] 52))) r10 (some (.cells [.int .u8 0, .int .i64 0, .str [], .int .i64 0] 52))) r9 (some (.cells [.int .u8 4, .int .i64 0, .str [40], .int .i64 0] 52))) r10 (some (.cells [.int .u8 4, .int .i64 0, .str [41], .int .i64 0] 52)) := ⟨_, rfl⟩;rw [← hL];have sL : Sub K L := by rw [hL]; exact ((((Sub.refl K).up hr9 _).up k10 _).up hr9 _).up k10 _
   have g3 : L r3 = some (.cells (dEx a) 27) := sL _ _ gr3;have g10 : L r10 = some (.cells [.int .u8 4, .int .i64 0, .str [41], .int .i64 0] 52) := by rw [hL]; exact upd_same _ _ _
   have g9 : L r9 = some (.cells [.int .u8 4, .int .i64 0, .str [40], .int .i64 0] 52) := by rw [hL, upd_ne _ _ _ _ n9]; exact upd_same _ _ _
   clear hL;have he : DCalls Tryz.prog G 32 [.str [41, 32, 44, 32, 59, 32, 61, 62, 32, 58, 32, 58, 61, 32, 116, 104, 101, 110, 32, 108, 111, 111, 112, 32, 105, 115, 32, 124]] L (DRet (dToks endsL) L) := toksL_spec G L _ (by decide);refine DCalls.monoR he ?_;have hel := ends_len;have hw0 : IntKind.i64.wrap (w : Int) = w := by rw [IntKind.wrap_i64]; omega
   obtain ⟨j, hj⟩ : ∃ j, j = w % 10 := ⟨_, rfl⟩;have hj10 : j < endsL.length := by omega
   have htm : (w : Int).tmod ((10 : Nat) : Int) = (j : Int) := by
    rw [Int.tmod_eq_emod_of_nonneg (by omega), hj]; omega
   have hget := flat_el dTok_len endsL j hj10;have hfe := flat_len dTok_len endsL;obtain ⟨u, hu⟩ : ∃ u, u = endsL[j] := ⟨_, rfl⟩;rw [← hu] at hget;rw [hel] at hfe;have hum : u ∈ endsL := by rw [hu]; exact List.getElem_mem _
   have hul := dTok_len u;have hj0 : (0 : Int) ≤ (j : Int) := by omega
   have hj1 : (j : Int) < ((10 : Nat) : Int) := by omega
   simp (disch := omega) only [go_sem, dToks, hel, hw0, htm, hget, hfe, hul, hj0, hj1, Int.toNat_natCast, repl1];intro q1 hq1; dsimp only at hq1;have hv1 : OwnJ L 52 4 1 (dTok u) (.oslice 4 q1 0 1 1) (upd L q1 (some (.cells (dTok u) 52))) := .inr ⟨q1, hq1, dTok_len u, rfl, upd_same _ _ _, (Sub.refl L).new hq1 _⟩;have ht4 := flat_len dTok_len more;simp (disch := omega) only [go_sem, toks_take_all, toks_all_one, ht4, Int.toNat_natCast];refine OwnJ.appendO (n := 1) (bytes := 40) (m := more.length) (news := more.flatMap dTok) hv1 (flat_len dTok_len _) (by omega) fun v2 H2 hv2 => ?_;have hvb : OwnJ L 52 4 (u :: more).length ((u :: more).flatMap dTok) v2 H2 := by
    rw [List.length_cons, Nat.add_comm, List.flatMap_cons]; exact hv2
   obtain ⟨hc2, -⟩ := hvb.cell1;clear hv2;simp (disch := omega) only [go_sem, hc2, repl2, List.length_cons, List.length_nil, List.drop_succ_cons, List.drop_zero, List.drop_nil, List.append_nil, List.cons_append, List.nil_append];intro q2 hq2; dsimp only at hq2;obtain ⟨M, hM⟩ : ∃ K', K' = upd H2 q2 (some (.cells [.vslice ((toksE a).flatMap dTok) (toksE a).length, v2] 28)) := ⟨_, rfl⟩;rw [← hM];have gq2 : M q2 = some (.cells [.vslice ((toksE a).flatMap dTok) (toksE a).length, v2] 28) := by rw [hM]; exact upd_same _ _ _
   have sM : Sub H2 M := by rw [hM]; exact (Sub.refl _).new hq2 _
   have sm : Sub L M := hvb.sub.trans sM;have hz : ∀ X : DHeap, Sub h0 X := fun X r o h => by cases h
   have hpl : [toksE a, u :: more].flatten.length ≤ 100000000 := by simp; omega
   have hmo : OwnJ h0 52 4 (u :: more).length ((u :: more).flatMap dTok) v2 M := (hvb.more sM).less (hz L);refine (Seens.lentA (args' := [dTss [toksE a, u :: more]]) (.cons (Seen.cells (e := 28) (size := 1) (n := 2) (cs' := [dToks (toksE a), dToks (u :: more)]) (hz M) rfl gq2 rfl (.cons (.keep (hz M) _) (.cons (.own hmo) .nil))) .nil) (concatT_ownA G [toksE a, u :: more] h0 (by simp) hpl) (toks_loose _)).mono ?_;rintro _ N ⟨v3, rfl, hv3⟩;have m3 : N r3 = some (.cells (dEx a) 27) := hv3.sub _ _ (sm _ _ g3);have m9' : N r9 = some (.cells [.int .u8 4, .int .i64 0, .str [40], .int .i64 0] 52) := hv3.sub _ _ (sm _ _ g9);have m10 : N r10 = some (.cells [.int .u8 4, .int .i64 0, .str [41], .int .i64 0] 52) := hv3.sub _ _ (sm _ _ g10);simp (disch := omega) only [go_sem, m3, m9', m10, repl1, repl2, List.length_cons, List.length_nil, List.drop_succ_cons, List.drop_zero, List.drop_nil, List.append_nil, List.cons_append, List.nil_append];intro q3 hq3; dsimp only at hq3;obtain ⟨N1, hN1⟩ : ∃ K', K' = upd N q3 (some (.cells [.int .u8 4, .int .i64 0, .str [40], .int .i64 0] 52)) := ⟨_, rfl⟩;rw [← hN1];have gq3 : N1 q3 = some (.cells [.int .u8 4, .int .i64 0, .str [40], .int .i64 0] 52) := by rw [hN1]; exact upd_same _ _ _
   have sN1 : Sub N N1 := by rw [hN1]; exact (Sub.refl _).new hq3 _
   have p10 : N1 r10 = some (.cells [.int .u8 4, .int .i64 0, .str [41], .int .i64 0] 52) := sN1 _ _ m10;simp (disch := omega) only [go_sem, p10, repl1, repl2, List.length_cons, List.length_nil, List.drop_succ_cons, List.drop_zero, List.drop_nil, List.append_nil, List.cons_append, List.nil_append];intro q4 hq4; dsimp only at hq4;obtain ⟨N2, hN2⟩ : ∃ K', K' = upd N1 q4 (some (.cells [.int .u8 4, .int .i64 0, .str [41], .int .i64 0] 52)) := ⟨_, rfl⟩;rw [← hN2];have gq4 : N2 q4 = some (.cells [.int .u8 4, .int .i64 0, .str [41], .int .i64 0] 52) := by rw [hN2]; exact upd_same _ _ _
   have sN2 : Sub N1 N2 := by rw [hN2]; exact (Sub.refl _).new hq4 _
   simp (disch := omega) only [go_sem, hc2, repl1, repl2, List.length_cons, List.length_nil, List.drop_succ_cons, List.drop_zero, List.drop_nil, List.append_nil, List.cons_append, List.nil_append];intro q5 hq5; dsimp only at hq5;obtain ⟨M2, hM2⟩ : ∃ K', K' = upd N2 q5 (some (.cells [.oslice 4 q3 0 1 1, .vslice ((toksE a).flatMap dTok) (toksE a).length, .oslice 4 q4 0 1 1, v2] 28)) := ⟨_, rfl⟩;rw [← hM2];have gq5 : M2 q5 = some (.cells [.oslice 4 q3 0 1 1, .vslice ((toksE a).flatMap dTok) (toksE a).length, .oslice 4 q4 0 1 1, v2] 28) := by rw [hM2]; exact upd_same _ _ _
   have sM2 : Sub N2 M2 := by rw [hM2]; exact (Sub.refl _).new hq5 _
   have s2 : Sub N M2 := (sN1.trans sN2).trans sM2;have x3 : M2 q3 = some (.cells [.int .u8 4, .int .i64 0, .str [40], .int .i64 0] 52) := sM2 _ _ (sN2 _ _ gq3);have x4 : M2 q4 = some (.cells [.int .u8 4, .int .i64 0, .str [41], .int .i64 0] 52) := sM2 _ _ gq4;have hil : [[sTok wOpen], toksE a, [sTok wShut], u :: more].flatten.length ≤ 100000000 := by simp; omega
   have hmo2 : OwnJ h0 52 4 (u :: more).length ((u :: more).flatMap dTok) v2 M2 := hmo.more (hv3.sub.trans s2);refine (Seens.lentA (args' := [dTss [[sTok wOpen], toksE a, [sTok wShut], u :: more]]) (.cons (Seen.cells (e := 28) (size := 1) (n := 4) (cs' := [dToks [sTok wOpen], dToks (toksE a), dToks [sTok wShut], dToks (u :: more)]) (hz M2) rfl gq5 rfl (.cons (Seen.block (hz M2) rfl x3 rfl) (.cons (.keep (hz M2) _) (.cons (Seen.block (hz M2) rfl x4 rfl) (.cons (.own hmo2) .nil))))) .nil) (concatT_ownA G [[sTok wOpen], toksE a, [sTok wShut], u :: more] h0 (by simp) hil) (toks_loose _)).mono ?_;rintro _ N3 ⟨v4, rfl, hv4⟩;have hfa := fT_E a ha.2;have hfu : fT (u :: more) := fT_cons (by have := ends_ok u hum; omega) hT;obtain ⟨pl, hpe⟩ : ∃ pl, pl = [toksE a, u :: more].flatten := ⟨_, rfl⟩;obtain ⟨il, hie⟩ : ∃ il, il = [[sTok wOpen], toksE a, [sTok wShut], u :: more].flatten := ⟨_, rfl⟩;have hpe' : pl = toksE a ++ u :: more := by rw [hpe]; simp
   have hie' : il = sTok wOpen :: (toksE a ++ sTok wShut :: u :: more) := by rw [hie]; simp
   rw [← hpe] at hv3 hpl;rw [← hie] at hv4 hil;have hfp : fT pl := by rw [hpe']; exact fT_append hfa hfu
   have hfi : fT il := by rw [hie']; exact fT_cons (by decide) (fT_append hfa (fT_cons (by decide) hfu))
   have hpl8 : pl.length ≤ 800000 := by rw [hpe']; simp; omega
   have hil8 : il.length ≤ 800000 := by rw [hie']; simp; omega
   have hnu : nof w0 (tk pl (toksE a).length) := by rw [hpe', tk_mid rfl]; exact ends_nof u hum
   obtain ⟨x, hf1, hs1⟩ := front_back (rest := (u :: more).map stT) hm (by rw [hpe', List.map_append, zT_map (zT_E a)]) hnu 0 (.inl (level_ge a).1);obtain ⟨y, hf2, hs2⟩ := paren_back (rest := (u :: more).map stT) (l := il) hm (by rw [hie']; simp [zT_map (zT_E a), stT, sTok]);have hv3s := hv3.sub;rcases hv3 with ⟨h, _⟩ | ⟨rv, hrv, hlv, rfl, hcv, hsv⟩
   ·exfalso; rw [hpe'] at h; simp at h
   rcases hv4 with ⟨h, _⟩ | ⟨rw', hrw, hlw, rfl, hcw, hsw⟩
   ·exfalso; rw [hie'] at h; simp at h
   have y3 : N3 r3 = some (.cells (dEx a) 27) := hsw _ _ (s2 _ _ m3);have yv : N3 rv = some (.cells (pl.flatMap dTok) 52) := hsw _ _ (s2 _ _ hcv);have nvw : rv ≠ rw' := none_ne hrw (s2 _ _ hcv);have n3v : r3 ≠ rv := none_ne hrv (sm _ _ g3);have n3w : r3 ≠ rw' := none_ne hrw (s2 _ _ m3);obtain ⟨B, hBe⟩ : ∃ B, B = upd N3 rv none := ⟨_, rfl⟩;have hB : Sub B N3 := fun b o hb => by
    rw [hBe] at hb;by_cases e : b = rv
    ·subst e; rw [upd_same] at hb; cases hb
    ·rw [upd_ne _ _ _ _ e] at hb; exact hb
   have bv : B rv = none := by rw [hBe]; exact upd_same _ _ _
   have b3 : B r3 = some (.cells (dEx a) 27) := by rw [hBe, upd_ne _ _ _ _ n3v]; exact y3
   have bw : B rw' = some (.cells (il.flatMap dTok) 52) := by rw [hBe, upd_ne _ _ _ _ nvw.symm]; exact hcw
   have sB : Sub K B := fun b o hb => by
    have hbN := hsw _ _ (s2 _ _ (hv3s _ _ (sm _ _ (sL _ _ hb))));have hne : b ≠ rv := none_ne hrv (sm _ _ (sL _ _ hb));rw [hBe, upd_ne _ _ _ _ hne]; exact hbN
   have hf1' : frontP pl 0 = (x, ((toksE a).length : Int), 0) := hf1;simp (disch := omega) only [go_sem];refine (Seens.call hB (.cons (Seen.block hB bv yv hlv) (.cons (.keep hB _) .nil)) (front_spec (l := pl) hG B 0 hpl8 (fT_fit hfp))).mono ?_;rintro _ H5 ⟨rfl, rfl⟩;rw [hf1'];have hlx := dEx_len x;have hox := dEx_one x;simp (disch := omega) only [go_sem, dFront, dE];intro r15 hr15; dsimp only at hr15;have n315 : r3 ≠ r15 := none_ne hr15 b3;have nw15 : rw' ≠ r15 := none_ne hr15 bw;simp (disch := omega) only [go_sem, hlx, hox];obtain ⟨C, hC⟩ : ∃ C, C = upd H5 r15 (some (.cells (dEx x) 27)) := ⟨_, rfl⟩;rw [← hC];have cw : C rw' = some (.cells (il.flatMap dTok) 52) := by rw [hC]; exact keepU bw nw15
   have c3 : C r3 = some (.cells (dEx a) 27) := by rw [hC]; exact keepU b3 n315
   have c15 : C r15 = some (.cells (dEx x) 27) := by rw [hC]; exact upd_same _ _ _
   have sC : Sub K C := by rw [hC]; exact sB.new hr15 _
   obtain ⟨D, hDe⟩ : ∃ D, D = upd C rw' none := ⟨_, rfl⟩;have hD : Sub D C := fun b o hb => by
    rw [hDe] at hb;by_cases e : b = rw'
    ·subst e; rw [upd_same] at hb; cases hb
    ·rw [upd_ne _ _ _ _ e] at hb; exact hb
   have dw : D rw' = none := by rw [hDe]; exact upd_same _ _ _
   have d3 : D r3 = some (.cells (dEx a) 27) := by rw [hDe, upd_ne _ _ _ _ n3w]; exact c3
   have d15 : D r15 = some (.cells (dEx x) 27) := by rw [hDe, upd_ne _ _ _ _ nw15.symm]; exact c15
   have sD : Sub K D := fun b o hb => by
    have hne : b ≠ rw' := none_ne hrw (s2 _ _ (hv3s _ _ (sm _ _ (sL _ _ hb))));rw [hDe, upd_ne _ _ _ _ hne]; exact sC _ _ hb
   refine (Seens.call hD (.cons (Seen.block hD dw cw hlw) (.cons (.keep hD _) .nil)) (front_spec (l := il) hG D 5 hil8 (fT_fit hfi))).mono ?_;rintro _ H6 ⟨rfl, rfl⟩;rw [hf2];have hly := dEx_len y;have hoy := dEx_one y;simp (disch := omega) only [go_sem, dFront, dE];intro r18 hr18; dsimp only at hr18;have n318 : r3 ≠ r18 := none_ne hr18 d3;have n1518 : r15 ≠ r18 := none_ne hr18 d15;have m318 := n318.symm;have m1518 := n1518.symm;have hwl2 : IntKind.i64.wrap (((toksE a).length : Int) + 2) = ((toksE a).length : Int) + 2 := by rw [IntKind.wrap_i64]; omega
   simp (disch := omega) only [go_sem, hly, hoy, hlx, hox, n318, n1518, m318, m1518, d3, d15, hwl2];refine DCalls.monoR (same_spec G _ x a (by rw [big_same hs1]; omega)) ?_;rw [sameE_of hs1];simp (disch := omega) only [go_sem, hly, hoy, hlx, hox, n318, n1518, m318, m1518, d3, d15, hwl2];refine DCalls.monoR (same_spec G _ y a (by rw [big_same hs2]; omega)) ?_;rw [sameE_of hs2];simp (disch := omega) only [go_sem, hly, hoy, hlx, hox, n318, n1518, m318, m1518, d3, d15, hwl2];refine DCalls.monoR (awake_spec hG _) ?_;try simp (disch := omega) only [go_sem]
   exact DFin.sub ((sK.trans sD).new hr18 _) (.refl ⟨rfl, rfl⟩)
end
end Go.Dl
