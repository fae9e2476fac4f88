/- The data level and the contracts of the functions that are reached (part 11). -/
import Derived.Test.YtojpnjngdiimhaaGreatDoorXj
set_option linter.unusedSimpArgs false
set_option linter.unusedVariables false
-- Chapter 2: LexComments.
namespace Go.Dl
open Go Go.Proofs Go.RowKit
set_option maxRecDepth 100000

theorem joinL_lib : ∀ ls : List (List UInt8), Lib.join ls [10] = joinL ls
  | [] => rfl
  | [s] => by rw [Lib.join_one, joinL]
  | s :: t :: l => by
    have ih := joinL_lib (t :: l)
    rw [Lib.join_cons] at ih ⊢
    rw [joinL, ← ih, Lib.joinTail, List.map_cons, List.flatten_cons]
    simp [Lib.joinTail]
section
variable {G : Nat → DVal} {H : DHeap}
/-- strings.Join with line feeds. -/
theorem join10_spec (ls : List (List UInt8)) (hn : ls.length ≤ 1000000000) (hl : (joinL ls).length ≤ 1000000000) : DCalls Tryz.prog G 41 [dStrs ls, .str [10]] H (DRet (.str (joinL ls)) H) := by
  refine DCalls.quiet Tryz.call41 fun vs w hv hH hg => ?_
  simp only [dStrs, RelL, Rel] at hv
  obtain ⟨_, _, rfl, ⟨a, cap, rfl, hle, hc⟩, _, _, rfl, rfl, rfl⟩ := hv
  have none : ls = [] → Calls Tryz.prog 41 #[.slice a ls.length cap, .string ⟨⟨[10]⟩⟩] w fun e w' => Quiet w w' ∧ ∃ e', e' = DEnd.ret (.str (joinL ls)) ∧ RelE w' H e' e := fun h => by
    subst h
    refine (Tryz.strings_Join_none a cap ⟨⟨[10]⟩⟩ w).mono fun e w' ⟨he, hw⟩ => ?_
    subst he; subst hw
    exact ⟨.refl _, _, rfl, .ret _ _ (by simp [Rel]; rfl)⟩
  rcases hc with hc | ⟨b, o, xs, rfl, hc, hr⟩
  · exact none (by simpa using hc)
  · have hxs : xs = ls.map fun l => Value.string ⟨⟨l⟩⟩ := by
      clear hc hle none hn hl
      induction ls generalizing xs with
      | nil => simpa [RelL] using hr
      | cons l ls ih =>
        simp only [List.map_cons, RelL, Rel] at hr ⊢
        obtain ⟨y, ys, rfl, rfl, h2⟩ := hr
        rw [ih ys h2]
    rcases hc with hc | ⟨hb, hc⟩
    · rw [hc] at hxs
      exact none (by simpa using hxs.symm)
    · cases ls with
      | nil => exact none rfl
      | cons l ls =>
        have h0 := hc 0 (Value.string ⟨⟨l⟩⟩) (by rw [hxs]; rfl)
        have hbk : b < w.heap.size := by
          rcases Nat.lt_or_ge b w.heap.size with h | h
          · exact h
          · simp [World.cell?, Array.getElem?_eq_none h] at h0
        obtain ⟨bs, hbs⟩ : ∃ bs, bs = (l :: ls).map fun l => (⟨⟨l⟩⟩ : ByteArray) := ⟨_, rfl⟩
        have e1 : bs.map (fun b => b.data.toList) = l :: ls := by rw [hbs, List.map_map]; exact List.map_id _
        have e2 : bs.length = (l :: ls).length := by rw [hbs, List.length_map]
        have hj : Lib.join (bs.map fun b => b.data.toList) (ByteArray.mk ⟨[10]⟩).data.toList = joinL (l :: ls) := by rw [e1]; exact joinL_lib _
        rw [← e2]
        refine (Tryz.strings_Join b o cap bs ⟨⟨[10]⟩⟩ w (fun j x hx => hc j _ ?_) hbk (by rw [e2]; omega) (by rw [e2]; exact hle) (by rw [hj]; omega)).mono fun e w' ⟨he, hw⟩ => ?_
        · rw [hxs]
          rw [hbs, List.getElem?_map, Option.map_eq_some_iff] at hx
          obtain ⟨u, hu, rfl⟩ := hx
          rw [List.getElem?_map, hu]; rfl
        · subst he
          exact ⟨.below hw, _, rfl, .ret _ _ (by rw [hj]; simp [Rel])⟩
/-- strings.Split by one byte: the pieces, in a block of the call's own. -/
theorem splitO_spec (hG : GT G) (s : List UInt8) (c : UInt8) (hs : s.length < 4294967281) : DCalls Tryz.prog G 40 [.str s, .str [c]] H
    (fun e H' => ∃ r, H r = none ∧ e = .ret (.oslice 1 r 0 (splitBy c s []).length (splitBy c s []).length) ∧ H' = upd H r (some (.cells ((splitBy c s []).map .str) 9))) := by
  refine ⟨Tryz.call40, fun vs w hv hH hg => ?_⟩
  simp only [RelL, Rel] at hv
  obtain ⟨_, _, rfl, rfl, _, _, rfl, rfl, rfl⟩ := hv
  obtain ⟨m, e1⟩ := hG.maxLen
  obtain ⟨x, cx, rx⟩ := var_cell hg e1
  simp only [Rel] at rx; subst rx
  refine (Tryz.strings_Split ⟨⟨s⟩⟩ ⟨#[c]⟩ m w hs cx (by simp [ByteArray.size])).mono fun e w' ⟨he, hw⟩ => ?_
  have hcnt : Lib.countB ⟨⟨s⟩⟩ ⟨#[c]⟩ = s.count c := Lib.count_one c s
  have hall := Lib.splitB_all ⟨#[c]⟩ (by simp [ByteArray.size]) 0 _ ⟨⟨s⟩⟩ rfl
  have hws := splitB_words c (Lib.countB ⟨⟨s⟩⟩ ⟨#[c]⟩) s (by rw [hcnt]; exact Nat.le_refl _)
  have hlen : (splitBy c s []).length = Lib.countB ⟨⟨s⟩⟩ ⟨#[c]⟩ + 1 := by rw [← hws, List.length_map, hall]
  generalize hsb : Lib.splitB ⟨#[c]⟩ 0 (Lib.countB ⟨⟨s⟩⟩ ⟨#[c]⟩) ⟨⟨s⟩⟩ = bs at hw hall hws
  rw [← hlen] at he
  subst he; subst hw
  have hrel : RelL w H ((splitBy c s []).map .str) (bs.map Value.string) := by
    rw [← hws]
    refine RelL.mk (by simp) fun i d x h1 h2 => ?_
    simp only [List.getElem?_map, Option.map_eq_some_iff] at h1 h2
    obtain ⟨b1, ⟨b0, q0, rfl⟩, rfl⟩ := h1
    obtain ⟨b2, q2, rfl⟩ := h2
    rw [q0] at q2; cases q2
    simp only [Rel]
  have hbl : bs.length = (splitBy c s []).length := by rw [hlen, hall]
  refine ⟨_, _, ⟨w.heap.size, hH.fresh, rfl, rfl⟩, .ret _ _ ?_, simHeap_alloc hH hrel _ (List.prefix_refl _) 9, ext_alloc hH _ _ _⟩
  simp only [Rel]
  refine ⟨0, _, rfl, Nat.le_refl _, Nat.le_refl _, .inr rfl, ?_, fun k hk => ?_⟩
  · simp
  · have : (w.alloc (.cells (bs.map Value.string).toArray 9)).heap[w.heap.size]? = some (.cells (bs.map Value.string).toArray 9) := by
      show (w.heap.push _)[w.heap.size]? = _
      simp
    rw [this] at hk
    simp [csize] at hk
    omega
def dU8 (c : List Int) : DVal := .vslice (c.map (.int .u8)) c.length
theorem u8_one (c : List Int) : ((c.map (DVal.int .u8)).all (·.one)) = true := by
  rw [List.all_eq_true]
  intro d hd
  obtain ⟨x, _, rfl⟩ := List.mem_map.1 hd
  rfl
theorem cloneU_spec (G : Nat → DVal) (H : DHeap) (c : List Int) (hl : c.length ≤ 1000000000) : DCalls Tryz.prog G 39 [dU8 c] H fun e H' => ∃ v, e = .ret v ∧ OwnJ H 5 1 c.length (c.map (.int .u8)) v H' := by
  have ho := u8_one c
  refine dcalls_intro Tryz.func39 Tryz.call39 rfl (by kernel_rfl) ?_
  simp (disch := omega) only [go_sem, Nat.reduceEqDiff, Nat.reduceAdd, Nat.reduceMul, Nat.reduceSub, Nat.reduceLeDiff, ↓reduceIte, reduceCtorEq, Int.reduceAdd, Int.reduceSub, Int.reduceMul, Int.reduceNeg, Int.reduceToNat, List.reduceReplicate, String.reduceEq, dU8]
  intro b hb
  cases b with
  | true =>
    simp (disch := omega) only [go_sem, Nat.reduceEqDiff, Nat.reduceAdd, Nat.reduceMul, Nat.reduceSub, Nat.reduceLeDiff, ↓reduceIte, reduceCtorEq, Int.reduceAdd, Int.reduceSub, Int.reduceMul, Int.reduceNeg, Int.reduceToNat, List.reduceReplicate, String.reduceEq]
    have h0 : c = [] := by
      cases c with
      | nil => rfl
      | cons x l => exact absurd (hb (by simp)) (by simp)
    subst h0
    exact DFin.refl ⟨_, rfl, OwnJ.nil _ _ (Sub.refl _)⟩
  | false =>
    simp (disch := omega) only [go_sem, Nat.reduceEqDiff, Nat.reduceAdd, Nat.reduceMul, Nat.reduceSub, Nat.reduceLeDiff, ↓reduceIte, reduceCtorEq, Int.reduceAdd, Int.reduceSub, Int.reduceMul, Int.reduceNeg, Int.reduceToNat, List.reduceReplicate, String.reduceEq]
    intro r hr; dsimp only at hr
    have ht : (c.map (DVal.int .u8)).take (c.length * 1) = c.map (.int .u8) := List.take_of_length_le (by simp)
    simp (disch := omega) only [go_sem, Nat.reduceEqDiff, Nat.reduceAdd, Nat.reduceMul, Nat.reduceSub, Nat.reduceLeDiff, ↓reduceIte, reduceCtorEq, Int.reduceAdd, Int.reduceSub, Int.reduceMul, Int.reduceNeg, Int.reduceToNat, List.reduceReplicate, String.reduceEq, ht, ho]
    have hv : OwnJ H 5 1 0 [] (.oslice 1 r 0 0 0) (upd H r (some (.cells [] 5))) := .inr ⟨r, hr, rfl, rfl, upd_same _ _ _, (Sub.refl H).up hr _⟩
    refine OwnJ.appendO hv (by simp) (by omega) fun v' H2 hv2 => ?_
    simp (disch := omega) only [go_sem, Nat.reduceEqDiff, Nat.reduceAdd, Nat.reduceMul, Nat.reduceSub, Nat.reduceLeDiff, ↓reduceIte, reduceCtorEq, Int.reduceAdd, Int.reduceSub, Int.reduceMul, Int.reduceNeg, Int.reduceToNat, List.reduceReplicate, String.reduceEq]
    refine DFin.refl ⟨v', rfl, ?_⟩
    simpa using hv2
/-- The bytes of a comment. -/
def comI (x : Int) : Int := 32 + x.tmod 95
def comB (c : List Int) : List UInt8 := c.map fun x => UInt8.ofNat (comI x).toNat
theorem comI_range {x : Int} (h0 : 0 ≤ x) (h1 : x ≤ 255) : 32 ≤ comI x ∧ comI x ≤ 126 := by
  have h2 := Int.tmod_nonneg 95 h0
  have h3 := Int.tmod_lt_of_pos x (b := 95) (by omega)
  unfold comI; omega
theorem comB_plain {c : List Int} (h : ∀ x ∈ c, 0 ≤ x ∧ x ≤ 255) : plainB (comB c) = true := List.all_eq_true.2 fun b hb => by
  obtain ⟨x, hx, rfl⟩ := List.mem_map.1 hb
  obtain ⟨h2, h3⟩ := comI_range (h x hx).1 (h x hx).2
  have h4 : (UInt8.ofNat (comI x).toNat).toNat = (comI x).toNat := by
    rw [UInt8.toNat_ofNat']; omega
  simp only [h4, Bool.and_eq_true, decide_eq_true_eq]
  omega
theorem strOf_com : ∀ c : List Int, strOf ((c.map comI).map (.int .u8)) = some (comB c)
  | [] => rfl
  | x :: c => by
    have ih := strOf_com c
    rw [List.map_cons, List.map_cons, strOf, ih]; rfl
theorem com_step {c : List Int} {k : Nat} (hk : k < c.length) : splice (((c.take k).map comI ++ c.drop k).map (DVal.int .u8)) k [.int .u8 (comI c[k])] = ((c.take (k + 1)).map comI ++ c.drop (k + 1)).map (.int .u8) := by
  have h1 : (c.take (k + 1)).map comI = (c.take k).map comI ++ [comI c[k]] := by
    rw [List.take_add_one, List.getElem?_eq_getElem hk, List.map_append]; rfl
  have h2 : (c.take k).length = k := by rw [List.length_take]; omega
  rw [h1, List.drop_eq_getElem_cons hk]
  simp only [List.map_append, List.map_cons, List.map_nil]
  have h3 : ((c.take k).map comI).length = k := by rw [List.length_map, h2]
  have h4 : (((c.take k).map comI).map (DVal.int .u8)).length = k := by rw [List.length_map, h3]
  have h5 : min k c.length ≤ k + 1 := by omega
  unfold splice
  rw [List.take_append_of_le_length (by omega), List.take_of_length_le (by omega), List.drop_append, List.drop_of_length_le (by simp only [List.length_map, List.length_take]; omega), h4]
  simp
theorem com_at {c : List Int} {k : Nat} (hk : k < c.length) : (((c.take k).map comI ++ c.drop k).map (DVal.int .u8))[k]? = some (.int .u8 c[k]) := by
  have h2 : (c.take k).length = k := by rw [List.length_take]; omega
  rw [List.getElem?_map, List.getElem?_append_right (by rw [List.length_map]; omega), List.length_map, h2, Nat.sub_self, List.getElem?_drop, Nat.add_zero, List.getElem?_eq_getElem hk]; rfl
theorem strs_set : ∀ {ls : List (List UInt8)} {k : Nat} (hk : k < ls.length) (b : List UInt8), splice (ls.map DVal.str) k [.str (ls[k] ++ b)] = (ls.modify k fun s => s ++ b).map .str
  | s :: ls, 0, _, b => rfl
  | s :: ls, k + 1, hk, b => by
    have ih := strs_set (ls := ls) (k := k) (by simpa using hk) b
    show splice (.str s :: ls.map DVal.str) (k + 1) _ = .str s :: (ls.modify k fun s => s ++ b).map .str
    rw [← ih]
    simp [splice]
set_option maxHeartbeats 4000000 in
theorem lexComments_spec (hG : GX G) (H : DHeap) (src : List UInt8) (at_ : Int) (c : List Int) (a0 : 0 ≤ at_) (a6 : at_ ≤ 65535) (hc : ∀ x ∈ c, 0 ≤ x ∧ x ≤ 255) : DCalls Tryz.prog G 12 [.str src, .int .u16 at_, dU8 c] H (DRet (.bool true) H) := by
  refine dcalls_intro Tryz.func12 Tryz.call12 rfl (by kernel_rfl) ?_
  by_cases h1 : 2000 < src.length
  · have h1' : (2000 : Int) < (src.length : Int) := by omega
    simp (disch := omega) only [go_sem, Nat.reduceEqDiff, Nat.reduceAdd, Nat.reduceMul, Nat.reduceSub, Nat.reduceLeDiff, ↓reduceIte, reduceCtorEq, Int.reduceAdd, Int.reduceSub, Int.reduceMul, Int.reduceNeg, Int.reduceToNat, List.reduceReplicate, String.reduceEq, h1']
    refine (awake_spec hG _).mono ?_
    rintro _ H1 ⟨rfl, rfl⟩
    simp (disch := omega) only [go_sem, Nat.reduceEqDiff, Nat.reduceAdd, Nat.reduceMul, Nat.reduceSub, Nat.reduceLeDiff, ↓reduceIte, reduceCtorEq, Int.reduceAdd, Int.reduceSub, Int.reduceMul, Int.reduceNeg, Int.reduceToNat, List.reduceReplicate, String.reduceEq]
    exact DFin.refl ⟨rfl, rfl⟩
  have h1' : ¬ (2000 : Int) < (src.length : Int) := by omega
  by_cases h2 : 100 < c.length
  · have h2' : (100 : Int) < (c.length : Int) := by omega
    simp (disch := omega) only [go_sem, Nat.reduceEqDiff, Nat.reduceAdd, Nat.reduceMul, Nat.reduceSub, Nat.reduceLeDiff, ↓reduceIte, reduceCtorEq, Int.reduceAdd, Int.reduceSub, Int.reduceMul, Int.reduceNeg, Int.reduceToNat, List.reduceReplicate, String.reduceEq, dU8, h1', h2']
    refine (awake_spec hG _).mono ?_
    rintro _ H1 ⟨rfl, rfl⟩
    simp (disch := omega) only [go_sem, Nat.reduceEqDiff, Nat.reduceAdd, Nat.reduceMul, Nat.reduceSub, Nat.reduceLeDiff, ↓reduceIte, reduceCtorEq, Int.reduceAdd, Int.reduceSub, Int.reduceMul, Int.reduceNeg, Int.reduceToNat, List.reduceReplicate, String.reduceEq]
    exact DFin.refl ⟨rfl, rfl⟩
  have h2' : ¬ (100 : Int) < (c.length : Int) := by omega
  simp (disch := omega) only [go_sem, Nat.reduceEqDiff, Nat.reduceAdd, Nat.reduceMul, Nat.reduceSub, Nat.reduceLeDiff, ↓reduceIte, reduceCtorEq, Int.reduceAdd, Int.reduceSub, Int.reduceMul, Int.reduceNeg, Int.reduceToNat, List.reduceReplicate, String.reduceEq, dU8, h1', h2']
  refine (cloneU_spec G H c (by omega)).mono ?_
  rintro _ H1 ⟨v, rfl, hv⟩
  obtain ⟨hlaw, hlen⟩ := tokens_com (src := src) (b := comB c) (by omega) (by rw [comB, List.length_map]; omega) (comB_plain hc) (at_.tmod (linesL src).length).toNat
  obtain ⟨ls, hls⟩ : ∃ ls, ls = linesL src := ⟨_, rfl⟩
  have hlsn : 0 < ls.length := by rw [hls]; exact List.length_pos_iff.2 (splitBy_ne _ _ _)
  have hlsm : ls.length ≤ 2001 := by
    have := lines_len src
    rw [hls]; omega
  have hlse : ∀ w ∈ ls, w.length ≤ 2000 := fun w hw => by
    rw [hls] at hw
    have := splitBy_el 10 src [] w hw
    simp only [List.length_nil] at this; omega
  rw [← hls] at hlaw hlen
  have hnz : ¬ (ls.length : Int) = 0 := by omega
  have hwa : IntKind.i64.wrap at_ = at_ := by rw [IntKind.wrap_i64]; omega
  have t1 := Int.tmod_nonneg (ls.length : Int) a0
  have t2 := Int.tmod_lt_of_pos at_ (b := (ls.length : Int)) (by omega)
  obtain ⟨kk, hkk⟩ : ∃ kk : Nat, at_.tmod ls.length = (kk : Int) := ⟨(at_.tmod ls.length).toNat, by omega⟩
  rw [hkk, Int.toNat_natCast] at hlaw hlen
  have hkn : kk < ls.length := by omega
  have hke := hlse ls[kk] (List.getElem_mem hkn)
  have hcb : (comB c).length = c.length := List.length_map _
  have hkI : (kk : Int) < (ls.length : Int) := by omega
  have hgk : (ls.map DVal.str)[kk]? = some (.str ls[kk]) := by rw [List.getElem?_map, List.getElem?_eq_getElem hkn]; rfl
  have hst9 := strs_set hkn (32 :: 45 :: 45 :: comB c)
  rcases hv with ⟨hv1, hv2, rfl, hv4⟩ | ⟨r, hv1, hv2, rfl, hv4, hv5⟩
  · have : c = [] := List.length_eq_zero_iff.1 hv1
    subst this
    have hso : strOf [] = some (comB []) := rfl
    simp (disch := omega) only [go_sem, Nat.reduceEqDiff, Nat.reduceAdd, Nat.reduceMul, Nat.reduceSub, Nat.reduceLeDiff, ↓reduceIte, reduceCtorEq, Int.reduceAdd, Int.reduceSub, Int.reduceMul, Int.reduceNeg, Int.reduceToNat, List.reduceReplicate, String.reduceEq]
    obtain ⟨I, hI⟩ : ∃ I : Nat → (Nat → DVal) → DHeap → Prop, ∀ k env heap, I k env heap ↔ (env 0 = .str src ∧ env 1 = .int .u16 at_ ∧ env 7 = .nilSlice ∧ env 28 = dI 0 ∧ env 29 = dI k ∧ heap = H1) := ⟨_, fun _ _ _ => Iff.rfl⟩
    refine DLoop.run I (fun k => 0) 0 ((hI _ _ _).2 ?_) ?_
    · simp (disch := omega) only [go_sem, Nat.reduceEqDiff, Nat.reduceAdd, Nat.reduceMul, Nat.reduceSub, Nat.reduceLeDiff, ↓reduceIte, reduceCtorEq, Int.reduceAdd, Int.reduceSub, Int.reduceMul, Int.reduceNeg, Int.reduceToNat, List.reduceReplicate, String.reduceEq]
      rfl
    · intro k env heap hi
      obtain ⟨e0, e1, e7, e28, e29, rfl⟩ := (hI _ _ _).1 hi
      have hk : ¬ (k : Int) < 0 := by omega
      simp (disch := omega) only [go_sem, Nat.reduceEqDiff, Nat.reduceAdd, Nat.reduceMul, Nat.reduceSub, Nat.reduceLeDiff, ↓reduceIte, reduceCtorEq, Int.reduceAdd, Int.reduceSub, Int.reduceMul, Int.reduceNeg, Int.reduceToNat, List.reduceReplicate, String.reduceEq, e0, e1, e7, e28, e29, hk]
      refine (splitO_spec hG.gt src 10 (by omega)).mono ?_
      rintro _ H2 ⟨r9, hr9, rfl, rfl⟩
      rw [show splitBy 10 src [] = linesL src from rfl, ← hls]
      have hsn : Sub H (upd heap r9 (some (.cells (ls.map .str) 9))) := Sub.new hv4 hr9 _
      skip
      simp (disch := omega) only [go_sem, Nat.reduceEqDiff, Nat.reduceAdd, Nat.reduceMul, Nat.reduceSub, Nat.reduceLeDiff, ↓reduceIte, reduceCtorEq, Int.reduceAdd, Int.reduceSub, Int.reduceMul, Int.reduceNeg, Int.reduceToNat, List.reduceReplicate, String.reduceEq]
      refine dwp_draws (by kernel_rfl) (.take 0 (.take 1 (.take 2 (.take 3 (.take 4 (.take 5 (.take 6 (.take 7 (.take 8 (.take 9 (.take 10 (.take 11 (.take 12 (.go 13 [] .done)))))))))))))) (by kernel_rfl) ?_
      simp (disch := omega) only [go_sem, Nat.reduceEqDiff, Nat.reduceAdd, Nat.reduceMul, Nat.reduceSub, Nat.reduceLeDiff, ↓reduceIte, reduceCtorEq, Int.reduceAdd, Int.reduceSub, Int.reduceMul, Int.reduceNeg, Int.reduceToNat, List.reduceReplicate, String.reduceEq, e0, e1, e7, hso, Option.bind_some, hwa, hnz, hkk, hkn, hkI, hgk, Int.toNat_natCast]
      rw [hst9]
      generalize hms : (ls.modify kk fun s => s ++ 32 :: 45 :: 45 :: comB []) = ms at hlaw hlen
      have hmn : ms.length = ls.length := by rw [← hms, List.length_modify]
      refine (lexTokens_spec hG _ src (by omega)).mono ?_
      rintro _ H3 ⟨rfl, rfl⟩
      simp (disch := omega) only [go_sem, Nat.reduceEqDiff, Nat.reduceAdd, Nat.reduceMul, Nat.reduceSub, Nat.reduceLeDiff, ↓reduceIte, reduceCtorEq, Int.reduceAdd, Int.reduceSub, Int.reduceMul, Int.reduceNeg, Int.reduceToNat, List.reduceReplicate, String.reduceEq, e0, e1, e7, hso]
      have hvs : OwnJ heap 9 1 ms.length (ms.map .str) (.oslice 1 r9 0 ms.length ms.length) (upd heap r9 (some (.cells (ms.map .str) 9))) := .inr ⟨r9, hr9, by simp, rfl, upd_same _ _ _, (Sub.refl heap).up hr9 _⟩
      have hsm : Sub H (upd heap r9 (some (.cells (ms.map .str) 9))) := Sub.new hv4 hr9 _
      rw [← hmn]
      refine ((join10_spec (G := G) (H := h0) ms (by omega) (by omega)).lent (args := [.oslice 1 r9 0 ms.length ms.length, .str [10]]) (OwnJ.lend hvs [.str [10]]) rfl).mono ?_
      rintro _ H4 ⟨rfl, rfl⟩
      simp (disch := omega) only [go_sem, Nat.reduceEqDiff, Nat.reduceAdd, Nat.reduceMul, Nat.reduceSub, Nat.reduceLeDiff, ↓reduceIte, reduceCtorEq, Int.reduceAdd, Int.reduceSub, Int.reduceMul, Int.reduceNeg, Int.reduceToNat, List.reduceReplicate, String.reduceEq, e0, e1, e7, hso]
      refine (lexTokens_spec hG _ (joinL ms) (by omega)).mono ?_
      rintro _ H5 ⟨rfl, rfl⟩
      rw [hlaw]
      simp (disch := omega) only [go_sem, Nat.reduceEqDiff, Nat.reduceAdd, Nat.reduceMul, Nat.reduceSub, Nat.reduceLeDiff, ↓reduceIte, reduceCtorEq, Int.reduceAdd, Int.reduceSub, Int.reduceMul, Int.reduceNeg, Int.reduceToNat, List.reduceReplicate, String.reduceEq, e0, e1, e7, hso]
      refine (eqL_spec G _ _ _ (tokens_len src)).mono ?_
      rintro _ H6 ⟨rfl, rfl⟩
      rw [decide_eq_true rfl]
      simp (disch := omega) only [go_sem, Nat.reduceEqDiff, Nat.reduceAdd, Nat.reduceMul, Nat.reduceSub, Nat.reduceLeDiff, ↓reduceIte, reduceCtorEq, Int.reduceAdd, Int.reduceSub, Int.reduceMul, Int.reduceNeg, Int.reduceToNat, List.reduceReplicate, String.reduceEq, e0, e1, e7, hso]
      refine (awake_spec hG _).mono ?_
      rintro _ H6 ⟨rfl, rfl⟩
      simp (disch := omega) only [go_sem, Nat.reduceEqDiff, Nat.reduceAdd, Nat.reduceMul, Nat.reduceSub, Nat.reduceLeDiff, ↓reduceIte, reduceCtorEq, Int.reduceAdd, Int.reduceSub, Int.reduceMul, Int.reduceNeg, Int.reduceToNat, List.reduceReplicate, String.reduceEq]
      exact DFin.sub hsm (DFin.refl ⟨rfl, rfl⟩)
  · simp (disch := omega) only [go_sem, Nat.reduceEqDiff, Nat.reduceAdd, Nat.reduceMul, Nat.reduceSub, Nat.reduceLeDiff, ↓reduceIte, reduceCtorEq, Int.reduceAdd, Int.reduceSub, Int.reduceMul, Int.reduceNeg, Int.reduceToNat, List.reduceReplicate, String.reduceEq]
    obtain ⟨I, hI⟩ : ∃ I : Nat → (Nat → DVal) → DHeap → Prop, ∀ k env heap, I k env heap ↔ (env 0 = .str src ∧ env 1 = .int .u16 at_ ∧ env 7 = .oslice 1 r 0 c.length c.length ∧ env 28 = dI c.length ∧ env 29 = dI k ∧ k ≤ c.length ∧ Sub H heap ∧ heap r = some (.cells (((c.take k).map comI ++ c.drop k).map (.int .u8)) 5)) := ⟨_, fun _ _ _ => Iff.rfl⟩
    refine DLoop.run I (fun k => c.length - k) 0 ((hI _ _ _).2 ?_) ?_
    · simp (disch := omega) only [go_sem, Nat.reduceEqDiff, Nat.reduceAdd, Nat.reduceMul, Nat.reduceSub, Nat.reduceLeDiff, ↓reduceIte, reduceCtorEq, Int.reduceAdd, Int.reduceSub, Int.reduceMul, Int.reduceNeg, Int.reduceToNat, List.reduceReplicate, String.reduceEq]
      (repeat' apply And.intro) <;> (try first | rfl | assumption | omega)
    · intro k env heap hi
      obtain ⟨e0, e1, e7, e28, e29, hk, hs, hr⟩ := (hI _ _ _).1 hi
      by_cases hlt : k < c.length
      · have hlt' : (k : Int) < (c.length : Int) := by omega
        have hwd : IntKind.i64.wrap ((k : Int) + 1) = ((k + 1 : Nat) : Int) := by rw [IntKind.wrap_i64]; omega
        have hx := hc c[k] (List.getElem_mem hlt)
        have hat := com_at hlt
        have hst := com_step hlt
        have hln : (((c.take k).map comI ++ c.drop k).map (DVal.int .u8)).length = c.length := by simp; omega
        obtain ⟨q1, q2⟩ := comI_range hx.1 hx.2
        have hwc : IntKind.u8.wrap (32 + c[k].tmod 95) = comI c[k] := by unfold comI at q1 q2 ⊢; rw [IntKind.wrap_u8]; omega
        generalize ((c.take k).map comI ++ c.drop k).map (DVal.int .u8) = cs at hr hat hst hln
        simp (disch := omega) only [go_sem, Nat.reduceEqDiff, Nat.reduceAdd, Nat.reduceMul, Nat.reduceSub, Nat.reduceLeDiff, ↓reduceIte, reduceCtorEq, Int.reduceAdd, Int.reduceSub, Int.reduceMul, Int.reduceNeg, Int.reduceToNat, List.reduceReplicate, String.reduceEq, e0, e1, e7, e28, e29, hlt', hr, hat, hwc, hlt, hln, Int.toNat_natCast]
        refine ⟨k + 1, _, GhostS.refl _, (hI _ _ _).2 ?_, by omega⟩
        simp (disch := omega) only [go_sem, Nat.reduceEqDiff, Nat.reduceAdd, Nat.reduceMul, Nat.reduceSub, Nat.reduceLeDiff, ↓reduceIte, reduceCtorEq, Int.reduceAdd, Int.reduceSub, Int.reduceMul, Int.reduceNeg, Int.reduceToNat, List.reduceReplicate, String.reduceEq, e0, e1, e7, e28, e29, hwd]
        (repeat' apply And.intro) <;> (try first | rfl | assumption | omega)
        · exact hs.up hv1 _
        · rw [hst]
      · have : k = c.length := by omega
        subst this
        rw [List.take_length, List.drop_length, List.append_nil] at hr
        have hso := strOf_com c
        have hcl : ((c.map comI).map (DVal.int .u8)).length = c.length := by simp
        generalize (c.map comI).map (DVal.int .u8) = cs at hr hso hcl
        have hct : cs.take c.length = cs := List.take_of_length_le (by omega)
        simp (disch := omega) only [go_sem, Nat.reduceEqDiff, Nat.reduceAdd, Nat.reduceMul, Nat.reduceSub, Nat.reduceLeDiff, ↓reduceIte, reduceCtorEq, Int.reduceAdd, Int.reduceSub, Int.reduceMul, Int.reduceNeg, Int.reduceToNat, List.reduceReplicate, String.reduceEq, e0, e1, e7, e28, e29]
        refine (splitO_spec hG.gt src 10 (by omega)).mono ?_
        rintro _ H2 ⟨r9, hr9, rfl, rfl⟩
        rw [show splitBy 10 src [] = linesL src from rfl, ← hls]
        have hsn : Sub H (upd heap r9 (some (.cells (ls.map .str) 9))) := Sub.new hs hr9 _
        have nr9 : r ≠ r9 := none_ne hr9 hr
        simp (disch := omega) only [go_sem, Nat.reduceEqDiff, Nat.reduceAdd, Nat.reduceMul, Nat.reduceSub, Nat.reduceLeDiff, ↓reduceIte, reduceCtorEq, Int.reduceAdd, Int.reduceSub, Int.reduceMul, Int.reduceNeg, Int.reduceToNat, List.reduceReplicate, String.reduceEq]
        refine dwp_draws (by kernel_rfl) (.take 0 (.take 1 (.take 2 (.take 3 (.take 4 (.take 5 (.take 6 (.take 7 (.take 8 (.take 9 (.take 10 (.take 11 (.take 12 (.go 13 [] .done)))))))))))))) (by kernel_rfl) ?_
        simp (disch := omega) only [go_sem, Nat.reduceEqDiff, Nat.reduceAdd, Nat.reduceMul, Nat.reduceSub, Nat.reduceLeDiff, ↓reduceIte, reduceCtorEq, Int.reduceAdd, Int.reduceSub, Int.reduceMul, Int.reduceNeg, Int.reduceToNat, List.reduceReplicate, String.reduceEq, e0, e1, e7, hso, hr, hcl, hct, nr9, Option.bind_some, hwa, hnz, hkk, hkn, hkI, hgk, Int.toNat_natCast]
        rw [hst9]
        generalize hms : (ls.modify kk fun s => s ++ 32 :: 45 :: 45 :: comB c) = ms at hlaw hlen
        have hmn : ms.length = ls.length := by rw [← hms, List.length_modify]
        refine (lexTokens_spec hG _ src (by omega)).mono ?_
        rintro _ H3 ⟨rfl, rfl⟩
        simp (disch := omega) only [go_sem, Nat.reduceEqDiff, Nat.reduceAdd, Nat.reduceMul, Nat.reduceSub, Nat.reduceLeDiff, ↓reduceIte, reduceCtorEq, Int.reduceAdd, Int.reduceSub, Int.reduceMul, Int.reduceNeg, Int.reduceToNat, List.reduceReplicate, String.reduceEq, e0, e1, e7, hso, hr, hcl, hct, nr9]
        have hvs : OwnJ heap 9 1 ms.length (ms.map .str) (.oslice 1 r9 0 ms.length ms.length) (upd heap r9 (some (.cells (ms.map .str) 9))) := .inr ⟨r9, hr9, by simp, rfl, upd_same _ _ _, (Sub.refl heap).up hr9 _⟩
        have hsm : Sub H (upd heap r9 (some (.cells (ms.map .str) 9))) := Sub.new hs hr9 _
        rw [← hmn]
        refine ((join10_spec (G := G) (H := h0) ms (by omega) (by omega)).lent (args := [.oslice 1 r9 0 ms.length ms.length, .str [10]]) (OwnJ.lend hvs [.str [10]]) rfl).mono ?_
        rintro _ H4 ⟨rfl, rfl⟩
        simp (disch := omega) only [go_sem, Nat.reduceEqDiff, Nat.reduceAdd, Nat.reduceMul, Nat.reduceSub, Nat.reduceLeDiff, ↓reduceIte, reduceCtorEq, Int.reduceAdd, Int.reduceSub, Int.reduceMul, Int.reduceNeg, Int.reduceToNat, List.reduceReplicate, String.reduceEq, e0, e1, e7, hso, hr, hcl, hct, nr9]
        refine (lexTokens_spec hG _ (joinL ms) (by omega)).mono ?_
        rintro _ H5 ⟨rfl, rfl⟩
        rw [hlaw]
        simp (disch := omega) only [go_sem, Nat.reduceEqDiff, Nat.reduceAdd, Nat.reduceMul, Nat.reduceSub, Nat.reduceLeDiff, ↓reduceIte, reduceCtorEq, Int.reduceAdd, Int.reduceSub, Int.reduceMul, Int.reduceNeg, Int.reduceToNat, List.reduceReplicate, String.reduceEq, e0, e1, e7, hso, hr, hcl, hct, nr9]
        refine (eqL_spec G _ _ _ (tokens_len src)).mono ?_
        rintro _ H6 ⟨rfl, rfl⟩
        rw [decide_eq_true rfl]
        simp (disch := omega) only [go_sem, Nat.reduceEqDiff, Nat.reduceAdd, Nat.reduceMul, Nat.reduceSub, Nat.reduceLeDiff, ↓reduceIte, reduceCtorEq, Int.reduceAdd, Int.reduceSub, Int.reduceMul, Int.reduceNeg, Int.reduceToNat, List.reduceReplicate, String.reduceEq, e0, e1, e7, hso, hr, hcl, hct, nr9]
        refine (awake_spec hG _).mono ?_
        rintro _ H6 ⟨rfl, rfl⟩
        simp (disch := omega) only [go_sem, Nat.reduceEqDiff, Nat.reduceAdd, Nat.reduceMul, Nat.reduceSub, Nat.reduceLeDiff, ↓reduceIte, reduceCtorEq, Int.reduceAdd, Int.reduceSub, Int.reduceMul, Int.reduceNeg, Int.reduceToNat, List.reduceReplicate, String.reduceEq]
        exact DFin.sub hsm (DFin.refl ⟨rfl, rfl⟩)
end
end Go.Dl

-- Chapter 2: what the last rows import.
