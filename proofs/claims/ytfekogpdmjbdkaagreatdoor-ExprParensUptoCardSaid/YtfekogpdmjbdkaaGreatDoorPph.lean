/- The data level and the contracts of the functions that are reached (part 8). -/
import Derived.Test.YtfekogpdmjbdkaaGreatDoorPpg
set_option linter.unusedSimpArgs false
set_option linter.unusedVariables false
set_option linter.unusedSectionVars false
-- Chapter 3: the package's reader: associations.
namespace Go.Dl
open Go Go.Proofs
set_option maxRecDepth 100000
section
variable {G : Nat → DVal} {H0 H H' : DHeap} {r k : Nat} {l : List Tok}
theorem then_ok {α β : Type} (x : α) (k : Nat) (f : α → Nat → Res β) : (Res.ok x k).then f = f x k := rfl
theorem then_fail {α β : Type} (k : Nat) (f : α → Nat → Res β) : (Res.fail k).then f = .fail k := rfl
theorem then_bot {α β : Type} (f : α → Nat → Res β) : Res.bot.then f = .bot := rfl
theorem OwnJ.at {B H' : DHeap} {e : TypeId} {size n : Nat} {cs : List DVal} {v : DVal} {r : Nat} {o : DObj} (h : OwnJ B e size n cs v H') (hr : B r = some o) (y : Option DObj) : OwnJ (upd B r y) e size n cs v (upd H' r y) := by
 have h2 : OwnJ (upd B r (some o)) e size n cs v H' := by rw [upd_get hr]; exact h
 exact h2.move y
theorem choice_shape {n k : Nat} {c : Ch} {k' : Nat} (h : (P l n).choice k = .ok c k') : (c.kind = 3 ∧ c.l = []) ∨ (c.kind = 2 ∧ ∃ x y, c.l = [x, y]) ∨ (c.kind = 1 ∧ ∃ x, c.l = [x]) := by
 cases n with
 | zero => cases h
 | succ n =>
  have e : (P l (n + 1)).choice k = if isW l k [wOthers] then .ok (.mk 3 []) (k + 1) else ((P l n).simple k).then fun x k => if isW l k [wDots] then ((P l n).simple (k + 1)).then fun y k => .ok (.mk 2 [x, y]) k else ((P l n).rest x k).then fun x k => .ok (.mk 1 [x]) k := rfl
  rw [e] at h;split at h
  ·cases h; exact .inl ⟨rfl, rfl⟩
  ·cases h1 : (P l n).simple k with
   | bot => rw [h1] at h; cases h
   | fail k => rw [h1] at h; cases h
   | ok x k1 =>
    rw [h1] at h;dsimp only [Res.then] at h;split at h
    ·cases h2 : (P l n).simple (k1 + 1) with
     | bot => rw [h2] at h; cases h
     | fail k => rw [h2] at h; cases h
     | ok y k2 => rw [h2] at h; cases h; exact .inr (.inl ⟨rfl, x, y, rfl⟩)
    ·cases h2 : (P l n).rest x k1 with
     | bot => rw [h2] at h; cases h
     | fail k => rw [h2] at h; cases h
     | ok y k2 => rw [h2] at h; cases h; exact .inr (.inr ⟨rfl, y, rfl⟩)
set_option maxHeartbeats 4000000 in
theorem rdAssoc_step (hG : GX G) (hl : l.length ≤ 800000) (n : Nat) (hc : ∀ m ≤ n, RdC Tryz.prog G l 161 r fun k => ((P l m).choice k).mp dC) (hpa : RdC Tryz.prog G l 62 r fun k => ((P l n).expr k).mp dE) : RdC Tryz.prog G l 177 r fun k => ((P l (n + 1)).assoc k).mp dA := by
 intro H k hr hk hn;obtain ⟨F, hF⟩ : ∃ F : Ch → Nat → Res As, ∀ c k, F c k = if c.kind = 1 ∧ isW l k [wBar] = false ∧ isW l k [wArrow] = false then .ok (.mk [] (c.l.getD 0 ex0)) k else if c.kind = 3 then must l wArrow k fun k => ((P l n).expr k).then fun e k => .ok (.mk [c] e) k else ((P l n).choicesL [c] k).then fun cs k => must l wArrow k fun k => ((P l n).expr k).then fun e k => .ok (.mk cs e) k := ⟨_, fun _ _ => rfl⟩
 have e : (P l (n + 1)).assoc k = ((P l n).choice k).then F := by
  have : F = fun c k => if c.kind = 1 ∧ isW l k [wBar] = false ∧ isW l k [wArrow] = false then .ok (.mk [] (c.l.getD 0 ex0)) k else if c.kind = 3 then must l wArrow k fun k => ((P l n).expr k).then fun e k => .ok (.mk [c] e) k else ((P l n).choicesL [c] k).then fun cs k => must l wArrow k fun k => ((P l n).expr k).then fun e k => .ok (.mk cs e) k := funext fun c => funext fun k => hF c k
  rw [this]; rfl
 dsimp only at hn ⊢
 rw [e] at hn ⊢
 refine dcalls_intro Tryz.func177 Tryz.call177 rfl (by kernel_rfl) ?_;simp (disch := omega) only [go_sem];intro r2 hr2; dsimp only at hr2;obtain ⟨Ha, hHa⟩ : ∃ K, K = upd H r2 (some (.cells [.nilSlice, .int .u8 0, .int .u8 0, .int .i64 0, .str [], .nilSlice, .nilSlice, .int .i64 0, .int .i64 0, .int .i64 0] 47)) := ⟨_, rfl⟩;rw [← hHa];have gr2 : Ha r2 = some (.cells [.nilSlice, .int .u8 0, .int .u8 0, .int .i64 0, .str [], .nilSlice, .nilSlice, .int .i64 0, .int .i64 0, .int .i64 0] 47) := by rw [hHa]; exact upd_same _ _ _
 have n2 : r ≠ r2 := none_ne hr2 hr;have q2 := n2.symm;have ha : RAt r l k H Ha := by rw [hHa]; exact (RAt.refl hr).new hr2 _
 simp (disch := omega) only [go_sem];have hpk := hc n (Nat.le_refl _) _ k ha.get hk;have had := (P_adv (l := l) n).choice k hk;dsimp only at hpk;cases hpr : (P l n).choice k with
 | bot => rw [hpr] at hn; exact absurd rfl hn
 | fail k3 =>
  rw [hpr] at hpk;refine (hpk (mp_ne (by simp))).mono ?_;rintro e H4 ⟨rfl, rfl⟩;simp (disch := omega) only [go_sem];exact RAt.finP (ha.set k3) ⟨rfl, rfl⟩
 | ok c k3 =>
  rw [hpr] at hpk hn had;refine (hpk (mp_ne (by simp))).mono ?_;rintro e H3 ⟨rfl, hH3⟩;have ha3 : RAt r l k3 H H3 := by rw [hH3]; exact ha.set k3
  dsimp only [Res.then, Adv] at hn had ⊢
  have hres := hF c k3;obtain ⟨res, hrs⟩ : ∃ res, res = F c k3 := ⟨_, rfl⟩;rw [← hrs] at hn hres ⊢
  have g3 : H3 r2 = some (.cells [.nilSlice, .int .u8 0, .int .u8 0, .int .i64 0, .str [], .nilSlice, .nilSlice, .int .i64 0, .int .i64 0, .int .i64 0] 47) := by rw [hH3]; exact keepU gr2 q2
  have hlc := dCh_len c;have hoc := dCh_one c;simp (disch := omega) only [go_sem, dC];intro r3 hr3; dsimp only at hr3;have n23 : r2 ≠ r3 := none_ne hr3 g3;have m23 := n23.symm;have n3 : r ≠ r3 := none_ne hr3 ha3.get;have q3 := n3.symm;simp (disch := omega) only [go_sem, hlc, hoc];obtain ⟨Hc, hHc⟩ : ∃ K, K = upd H3 r3 (some (.cells (dCh c) 71)) := ⟨_, rfl⟩;rw [← hHc];have hac : RAt r l k3 H Hc := by rw [hHc]; exact ha3.new hr3 _
  have gc2 : Hc r2 = some (.cells [.nilSlice, .int .u8 0, .int .u8 0, .int .i64 0, .str [], .nilSlice, .nilSlice, .int .i64 0, .int .i64 0, .int .i64 0] 47) := by rw [hHc]; exact keepU g3 n23
  have gc3 : Hc r3 = some (.cells (dCh c) 71) := by rw [hHc]; exact upd_same _ _ _
  have gk : (dCh c)[0]? = some (.int .u8 c.kind) := by rw [dCh_eq]; rfl
  by_cases c1 : c.kind = 1
  ·simp (disch := omega) only [go_sem, gc3, gk, c1];intro w1 hw1; dsimp only at hw1;simp (disch := omega) only [go_sem];refine (is1 hG _ w1 wBar hw1 hac.get (by omega) (by omega)).mono ?_;rintro _ H5 ⟨rfl, hH5⟩;rw [hH5];by_cases b1 : isW l k3 [wBar] = true
   ·simp (disch := omega) only [go_sem, b1];have hnc : ¬ (c.kind = 1 ∧ isW l k3 [wBar] = false ∧ isW l k3 [wArrow] = false) := fun h => by rw [b1] at h; exact absurd h.2.1 (by decide)
    have hsh := choice_shape hpr;obtain ⟨n', rfl⟩ : ∃ n', n = n' + 1 := by
     cases n with
     | zero => cases hpr
     | succ n' => exact ⟨n', rfl⟩
    obtain ⟨L', hL0, hL, hres2⟩ : ∃ L' : Nat → List Ch → Nat → Res (List Ch), (c.kind ≠ 3 → ∀ x k, L' 0 x k = .bot) ∧ (∀ m x k, L' (m + 1) x k = if c.kind ≠ 3 ∧ isW l k [wBar] = true then ((P l m).choice (k + 1)).then fun a k => L' m (x ++ [a]) k else .ok x k) ∧ res = (L' (n' + 1) [c] k3).then fun cs k => must l wArrow k fun k => ((P l (n' + 1)).expr k).then fun e k => .ok (.mk cs e) k := by
     rw [hres];by_cases c3 : c.kind = 3
     ·refine ⟨fun _ x k => .ok x k, fun h => absurd c3 h, fun m x k => by rw [if_neg (fun h => h.1 c3)], ?_⟩;rw [if_neg (fun h => by rw [c3] at h; exact absurd h.1 (by decide)), if_pos c3]; rfl
     ·refine ⟨fun m => (P l m).choicesL, fun _ _ _ => rfl, fun m x k => ?_, ?_⟩
      ·have e : (P l (m + 1)).choicesL x k = if isW l k [wBar] then ((P l m).choice (k + 1)).then fun c k => (P l m).choicesL (x ++ [c]) k else .ok x k := rfl
       show (P l (m + 1)).choicesL x k = _;rw [e];by_cases hb : isW l k [wBar] = true
       ·rw [if_pos hb, if_pos ⟨c3, hb⟩]
       ·rw [if_neg hb, if_neg (fun h => hb h.2)]
      ·rw [if_neg hnc, if_neg c3]
    obtain ⟨AB, hAB⟩ : ∃ AB : DVal → Nat → DHeap, ∀ v k, AB v k = upd (upd Hc r2 (some (.cells [v, .int .u8 0, .int .u8 0, .int .i64 0, .str [], .nilSlice, .nilSlice, .int .i64 0, .int .i64 0, .int .i64 0] 47))) r (some (rdO l k)) := ⟨_, fun _ _ => rfl⟩;have hABr : ∀ v k, AB v k r = some (rdO l k) := fun v k => by rw [hAB]; exact upd_same _ _ _
    have hAB2 : ∀ v k, AB v k r2 = some (.cells [v, .int .u8 0, .int .u8 0, .int .i64 0, .str [], .nilSlice, .nilSlice, .int .i64 0, .int .i64 0, .int .i64 0] 47) := fun v k => by rw [hAB, upd_ne _ _ _ _ q2]; exact upd_same _ _ _
    have hAB3 : ∀ v k, AB v k r3 = some (.cells (dCh c) 71) := fun v k => by rw [hAB, upd_ne _ _ _ _ q3, upd_ne _ _ _ _ m23]; exact gc3
    have hABk : ∀ v k k', upd (AB v k) r (some (rdO l k')) = AB v k' := fun v k k' => by rw [hAB, hAB, upd_upd]
    have hABv : ∀ v v' k, upd (AB v k) r2 (some (.cells [v', .int .u8 0, .int .u8 0, .int .i64 0, .str [], .nilSlice, .nilSlice, .int .i64 0, .int .i64 0, .int .i64 0] 47)) = AB v' k := fun v v' k => by rw [hAB, hAB, upd_swap q2, upd_upd]
    have hABa : ∀ v k, RAt r l k H (AB v k) := fun v k => by rw [hAB]; exact (hac.own hr2 q2 _).set k
    simp (disch := omega) only [go_sem, gc2, gc3, hlc];rw [show List.drop 2 (repl 1 [DVal.int .u8 0, DVal.nilSlice]) = [] from rfl];simp (disch := omega) only [go_sem, hlc, hoc];intro r28 h28; dsimp only at h28;simp (disch := omega) only [go_sem];intro r29 h29; dsimp only at h29;obtain ⟨H6, hH6⟩ : ∃ K, K = upd (upd Hc r28 (some (.cells (dCh c) 71))) r29 (some (.cells (dCh c) 71)) := ⟨_, rfl⟩;rw [← hH6];have s28 : Sub Hc (upd Hc r28 (some (.cells (dCh c) 71))) := (Sub.refl Hc).new h28 _;have hv6 : OwnJ Hc 71 2 1 (dCh c) (.oslice 2 r29 0 1 1) H6 := .inr ⟨r29, s28.lo h29, hlc, rfl, by rw [hH6]; exact upd_same _ _ _, by rw [hH6]; exact s28.new h29 _⟩;obtain ⟨v1, hv1⟩ : ∃ v1, v1 = DVal.oslice 2 r29 0 1 1 := ⟨_, rfl⟩;rw [← hv1] at hv6 ⊢
    have g62 := hv6.keep gc2;obtain ⟨k1a, k1b⟩ := hv6.cell1;simp (disch := omega) only [go_sem, g62, k1a, k1b];have hv7 : OwnCh (AB v1 k3) [c] v1 (upd H6 r2 (some (.cells [v1, .int .u8 0, .int .u8 0, .int .i64 0, .str [], .nilSlice, .nilSlice, .int .i64 0, .int .i64 0, .int .i64 0] 47))) := by
     have := hv6.at gc2 (some (.cells [v1, .int .u8 0, .int .u8 0, .int .i64 0, .str [], .nilSlice, .nilSlice, .int .i64 0, .int .i64 0, .int .i64 0] 47));rw [show AB v1 k3 = upd Hc r2 (some (.cells [v1, .int .u8 0, .int .u8 0, .int .i64 0, .str [], .nilSlice, .nilSlice, .int .i64 0, .int .i64 0, .int .i64 0] 47)) by rw [hAB]; exact upd_get (keepU hac.get n2)];unfold OwnCh;rw [List.flatMap_singleton]; exact this
    obtain ⟨I, hI⟩ : ∃ I : Nat × List Ch × Nat → (Nat → DVal) → DHeap → Prop, ∀ s env heap, I s env heap ↔ (env 0 = .optr r 0 ∧ env 2 = .optr r2 0 ∧ env 3 = .optr r3 0 ∧ s.2.2 ≤ l.length ∧ s.2.1.length ≤ s.2.2 ∧ s.1 ≤ n' ∧ L' (s.1 + 1) s.2.1 s.2.2 = L' (n' + 1) [c] k3 ∧ ∃ v, OwnCh (AB v s.2.2) s.2.1 v heap) := ⟨_, fun _ _ _ => Iff.rfl⟩;refine DLoop.run I (fun s => s.1) (n', [c], k3) ((hI _ _ _).2 ?_) ?_
    ·simp (disch := omega) only [go_sem];(repeat' apply And.intro) <;> (try first | rfl | assumption | omega);exact ⟨v1, hv7⟩
    ·rintro ⟨m, xs, k1⟩ env heap hi';obtain ⟨e0, e2, e3, hk1, hlen, hm, hLm, v, hv⟩ := (hI _ _ _).1 hi';dsimp only at hk1 hlen hm hLm hv;rw [hL] at hLm;have gr : heap r = some (rdO l k1) := OwnJ.keep hv (hABr _ _);have g2 := OwnJ.keep hv (hAB2 _ _);have g3 := OwnJ.keep hv (hAB3 _ _);by_cases c3 : c.kind = 3
     ·rw [if_neg (fun h => h.1 c3)] at hLm;simp (disch := omega) only [go_sem, e0, e2, e3, g3, gk, c3];refine (must_spec hG heap wArrow gr (by omega) (by omega)).mono ?_;intro e1 H8 hq;rw [← hLm, then_ok] at hres2;unfold must at hq hres2;by_cases b5 : isW l k1 [wArrow] = true
      ·rw [if_pos b5] at hq hres2;obtain ⟨rfl, hH8⟩ := hq;dsimp only at hres2;have hk5 := isW_lt b5 hk1;rw [List.length_singleton] at hk5;have hv8 : OwnCh (AB v (k1 + 1)) xs v H8 := by rw [hH8, ← hABk v k1]; exact OwnJ.at hv (hABr _ _) _
       simp (disch := omega) only [go_sem, e0, e2, e3];have hpk := hpa _ (k1 + 1) (OwnJ.keep hv8 (hABr _ _)) hk5;dsimp only at hpk;cases hpe : (P l (n' + 1)).expr (k1 + 1) with
       | bot => rw [hpe, then_bot] at hres2; rw [hres2] at hn; exact absurd rfl hn
       | fail k6 =>
        rw [hpe] at hpk;rw [hpe, then_fail] at hres2;refine (hpk (mp_ne (by simp))).mono ?_;rintro e H9 ⟨rfl, hH9⟩;have hv9 : OwnCh (AB v k6) xs v H9 := by rw [hH9, ← hABk v (k1 + 1)]; exact OwnJ.at hv8 (hABr _ _) _
        simp (disch := omega) only [go_sem];rw [hres2];exact RAt.finP ((hABa v k6).more (OwnJ.sub hv9)) ⟨rfl, rfl⟩
       | ok y k6 =>
        rw [hpe] at hpk;rw [hpe, then_ok] at hres2;refine (hpk (mp_ne (by simp))).mono ?_;rintro e H9 ⟨rfl, hH9⟩;have hv9 : OwnCh (AB v k6) xs v H9 := by rw [hH9, ← hABk v (k1 + 1)]; exact OwnJ.at hv8 (hABr _ _) _
        have g92 := OwnJ.keep hv9 (hAB2 v k6);obtain ⟨j1, j2⟩ := OwnJ.cell1 hv9;have hly := dEx_len y;have hoy := dEx_one y;simp (disch := omega) only [go_sem, e0, e2, e3, dE, g92, hly, hoy, j1, j2];rw [hres2];have hvf := fun z => OwnJ.less (OwnJ.at hv9 (hAB2 v k6) z) ((hABa v k6).own hr2 q2 z);refine Seen.fin (OwnJ.sub (hvf _)) (Seen.agg (Seen.assoc (c := xs) (OwnJ.sub (hvf _)) (Seen.own (hvf _)))) ⟨rfl, rfl⟩
      ·rw [if_neg b5] at hq hres2;obtain ⟨rfl, hH8⟩ := hq;have hv8 : OwnCh (AB v k1) xs v H8 := by rw [hH8, ← hABk v k1]; exact OwnJ.at hv (hABr _ _) _
       simp (disch := omega) only [go_sem];rw [hres2];exact RAt.finP ((hABa v k1).more (OwnJ.sub hv8)) ⟨rfl, rfl⟩
     ·simp (disch := omega) only [go_sem, e0, e2, e3, g3, gk, c3];intro w1 hw1; dsimp only at hw1;simp (disch := omega) only [go_sem, e0, e2, e3, g3, gk, c3];refine (may1 hG _ w1 wBar hw1 gr (by omega) (by omega)).mono ?_;rintro _ H4 ⟨rfl, hH4⟩;by_cases b : isW l k1 [wBar] = true
      ·rw [if_pos ⟨c3, b⟩] at hLm;rw [if_pos b] at hH4;have hk4 := isW_lt b hk1;rw [List.length_singleton] at hk4;have hv4 : OwnCh (AB v (k1 + 1)) xs v H4 := by rw [hH4, ← hABk v k1]; exact OwnJ.at hv (hABr _ _) _
       have g42 := OwnJ.keep hv4 (hAB2 _ _);simp (disch := omega) only [go_sem, e0, e2, e3, b];refine dwp_draws (by kernel_rfl) (.take 0 (.take 1 (.take 2 (.go 3 [1] (.go 4 [1] (.go 5 [] (.take 6 (.go 7 [] .done)))))))) (by kernel_rfl) ?_;simp (disch := omega) only [go_sem, e0, e2, e3, g42];have hp2 := hc m (by omega) _ (k1 + 1) (OwnJ.keep hv4 (hABr _ _)) hk4;have had2 := (P_adv (l := l) m).choice (k1 + 1) hk4;dsimp only at hp2;cases hpr2 : (P l m).choice (k1 + 1) with
       | bot =>
        rw [hpr2, then_bot] at hLm;rw [← hLm, then_bot] at hres2;rw [hres2] at hn; exact absurd rfl hn
       | fail k5 =>
        rw [hpr2] at hp2;rw [hpr2, then_fail] at hLm;rw [← hLm, then_fail] at hres2;refine (hp2 (mp_ne (by simp))).mono ?_;rintro e H5 ⟨rfl, hH5⟩;have hv5 : OwnCh (AB v k5) xs v H5 := by rw [hH5, ← hABk v (k1 + 1)]; exact OwnJ.at hv4 (hABr _ _) _
        simp (disch := omega) only [go_sem];rw [hres2];exact RAt.finP ((hABa v k5).more (OwnJ.sub hv5)) ⟨rfl, rfl⟩
       | ok a k5 =>
        rw [hpr2] at hp2 had2;rw [hpr2, then_ok] at hLm;dsimp only [Adv] at had2;refine (hp2 (mp_ne (by simp))).mono ?_;rintro e H5 ⟨rfl, hH5⟩;have hv5 : OwnCh (AB v k5) xs v H5 := by rw [hH5, ← hABk v (k1 + 1)]; exact OwnJ.at hv4 (hABr _ _) _
        have g52 := OwnJ.keep hv5 (hAB2 _ _);have hla2 := dCh_len a;simp (disch := omega) only [go_sem, e0, e2, e3, g42, g52, dC];rw [cells1Ch hla2];simp (disch := omega) only [go_sem, e0, e2, e3, g42, g52];intro r8 hr8; dsimp only at hr8;have n8 : r2 ≠ r8 := none_ne hr8 g52;simp (disch := omega) only [go_sem, e0, e2, e3, g52, n8];refine OwnJ.append (m := 1) (OwnJ.new hv5 hr8 _) (by rw [hla2]) (by omega) fun v2 H6 hv2 => ?_;have g62 := OwnJ.keep hv2 (hAB2 _ _);obtain ⟨j1, j2⟩ := OwnJ.cell1 hv2;simp (disch := omega) only [go_sem, e0, e2, e3, g62, j1, j2];obtain ⟨m', rfl⟩ : ∃ m', m = m' + 1 := by
         cases m with
         | zero => rw [hL0 c3] at hLm; rw [← hLm, then_bot] at hres2; rw [hres2] at hn; exact absurd rfl hn
         | succ m' => exact ⟨m', rfl⟩
        have hlen2 : (xs ++ [a]).length ≤ k5 := by rw [List.length_append, List.length_singleton]; omega
        have hv3 : OwnCh (AB v2 k5) (xs ++ [a]) v2 (upd H6 r2 (some (.cells [v2, .int .u8 0, .int .u8 0, .int .i64 0, .str [], .nilSlice, .nilSlice, .int .i64 0, .int .i64 0, .int .i64 0] 47))) := by
         have := OwnJ.at hv2 (hAB2 _ _) (some (.cells [v2, .int .u8 0, .int .u8 0, .int .i64 0, .str [], .nilSlice, .nilSlice, .int .i64 0, .int .i64 0, .int .i64 0] 47));rw [hABv] at this;unfold OwnCh;rw [List.length_append, List.length_singleton, List.flatMap_append, List.flatMap_singleton];exact this
        refine ⟨(m', xs ++ [a], k5), _, GhostS.refl _, (hI _ _ _).2 ?_, by dsimp only; omega⟩;simp (disch := omega) only [go_sem, e0, e2, e3];(repeat' apply And.intro) <;> (try first | rfl | assumption | omega);exact ⟨v2, hv3⟩
      ·have b' : isW l k1 [wBar] = false := by simpa using b
       rw [if_neg (fun h => b h.2)] at hLm;rw [if_neg b, upd_get gr] at hH4;rw [hH4];simp (disch := omega) only [go_sem, e0, e2, e3, b'];refine (must_spec hG heap wArrow gr (by omega) (by omega)).mono ?_;intro e1 H8 hq;rw [← hLm, then_ok] at hres2;unfold must at hq hres2;by_cases b5 : isW l k1 [wArrow] = true
       ·rw [if_pos b5] at hq hres2;obtain ⟨rfl, hH8⟩ := hq;dsimp only at hres2;have hk5 := isW_lt b5 hk1;rw [List.length_singleton] at hk5;have hv8 : OwnCh (AB v (k1 + 1)) xs v H8 := by rw [hH8, ← hABk v k1]; exact OwnJ.at hv (hABr _ _) _
        simp (disch := omega) only [go_sem, e0, e2, e3];have hpk := hpa _ (k1 + 1) (OwnJ.keep hv8 (hABr _ _)) hk5;dsimp only at hpk;cases hpe : (P l (n' + 1)).expr (k1 + 1) with
        | bot => rw [hpe, then_bot] at hres2; rw [hres2] at hn; exact absurd rfl hn
        | fail k6 =>
         rw [hpe] at hpk;rw [hpe, then_fail] at hres2;refine (hpk (mp_ne (by simp))).mono ?_;rintro e H9 ⟨rfl, hH9⟩;have hv9 : OwnCh (AB v k6) xs v H9 := by rw [hH9, ← hABk v (k1 + 1)]; exact OwnJ.at hv8 (hABr _ _) _
         simp (disch := omega) only [go_sem];rw [hres2];exact RAt.finP ((hABa v k6).more (OwnJ.sub hv9)) ⟨rfl, rfl⟩
        | ok y k6 =>
         rw [hpe] at hpk;rw [hpe, then_ok] at hres2;refine (hpk (mp_ne (by simp))).mono ?_;rintro e H9 ⟨rfl, hH9⟩;have hv9 : OwnCh (AB v k6) xs v H9 := by rw [hH9, ← hABk v (k1 + 1)]; exact OwnJ.at hv8 (hABr _ _) _
         have g92 := OwnJ.keep hv9 (hAB2 v k6);obtain ⟨j1, j2⟩ := OwnJ.cell1 hv9;have hly := dEx_len y;have hoy := dEx_one y;simp (disch := omega) only [go_sem, e0, e2, e3, dE, g92, hly, hoy, j1, j2];rw [hres2];have hvf := fun z => OwnJ.less (OwnJ.at hv9 (hAB2 v k6) z) ((hABa v k6).own hr2 q2 z);refine Seen.fin (OwnJ.sub (hvf _)) (Seen.agg (Seen.assoc (c := xs) (OwnJ.sub (hvf _)) (Seen.own (hvf _)))) ⟨rfl, rfl⟩
       ·rw [if_neg b5] at hq hres2;obtain ⟨rfl, hH8⟩ := hq;have hv8 : OwnCh (AB v k1) xs v H8 := by rw [hH8, ← hABk v k1]; exact OwnJ.at hv (hABr _ _) _
        simp (disch := omega) only [go_sem];rw [hres2];exact RAt.finP ((hABa v k1).more (OwnJ.sub hv8)) ⟨rfl, rfl⟩
   ·have b1' : isW l k3 [wBar] = false := by simpa using b1
    simp (disch := omega) only [go_sem, b1'];intro w2 hw2; dsimp only at hw2;simp (disch := omega) only [go_sem];refine (is1 hG _ w2 wArrow hw2 hac.get (by omega) (by omega)).mono ?_;rintro _ H6 ⟨rfl, hH6⟩;rw [hH6];by_cases b2 : isW l k3 [wArrow] = true
    ·simp (disch := omega) only [go_sem, b2];have hnc : ¬ (c.kind = 1 ∧ isW l k3 [wBar] = false ∧ isW l k3 [wArrow] = false) := fun h => by rw [b2] at h; exact absurd h.2.2 (by decide)
     have hsh := choice_shape hpr;obtain ⟨n', rfl⟩ : ∃ n', n = n' + 1 := by
      cases n with
      | zero => cases hpr
      | succ n' => exact ⟨n', rfl⟩
     obtain ⟨L', hL0, hL, hres2⟩ : ∃ L' : Nat → List Ch → Nat → Res (List Ch), (c.kind ≠ 3 → ∀ x k, L' 0 x k = .bot) ∧ (∀ m x k, L' (m + 1) x k = if c.kind ≠ 3 ∧ isW l k [wBar] = true then ((P l m).choice (k + 1)).then fun a k => L' m (x ++ [a]) k else .ok x k) ∧ res = (L' (n' + 1) [c] k3).then fun cs k => must l wArrow k fun k => ((P l (n' + 1)).expr k).then fun e k => .ok (.mk cs e) k := by
      rw [hres];by_cases c3 : c.kind = 3
      ·refine ⟨fun _ x k => .ok x k, fun h => absurd c3 h, fun m x k => by rw [if_neg (fun h => h.1 c3)], ?_⟩;rw [if_neg (fun h => by rw [c3] at h; exact absurd h.1 (by decide)), if_pos c3]; rfl
      ·refine ⟨fun m => (P l m).choicesL, fun _ _ _ => rfl, fun m x k => ?_, ?_⟩
       ·have e : (P l (m + 1)).choicesL x k = if isW l k [wBar] then ((P l m).choice (k + 1)).then fun c k => (P l m).choicesL (x ++ [c]) k else .ok x k := rfl
        show (P l (m + 1)).choicesL x k = _;rw [e];by_cases hb : isW l k [wBar] = true
        ·rw [if_pos hb, if_pos ⟨c3, hb⟩]
        ·rw [if_neg hb, if_neg (fun h => hb h.2)]
       ·rw [if_neg hnc, if_neg c3]
     obtain ⟨AB, hAB⟩ : ∃ AB : DVal → Nat → DHeap, ∀ v k, AB v k = upd (upd Hc r2 (some (.cells [v, .int .u8 0, .int .u8 0, .int .i64 0, .str [], .nilSlice, .nilSlice, .int .i64 0, .int .i64 0, .int .i64 0] 47))) r (some (rdO l k)) := ⟨_, fun _ _ => rfl⟩;have hABr : ∀ v k, AB v k r = some (rdO l k) := fun v k => by rw [hAB]; exact upd_same _ _ _
     have hAB2 : ∀ v k, AB v k r2 = some (.cells [v, .int .u8 0, .int .u8 0, .int .i64 0, .str [], .nilSlice, .nilSlice, .int .i64 0, .int .i64 0, .int .i64 0] 47) := fun v k => by rw [hAB, upd_ne _ _ _ _ q2]; exact upd_same _ _ _
     have hAB3 : ∀ v k, AB v k r3 = some (.cells (dCh c) 71) := fun v k => by rw [hAB, upd_ne _ _ _ _ q3, upd_ne _ _ _ _ m23]; exact gc3
     have hABk : ∀ v k k', upd (AB v k) r (some (rdO l k')) = AB v k' := fun v k k' => by rw [hAB, hAB, upd_upd]
     have hABv : ∀ v v' k, upd (AB v k) r2 (some (.cells [v', .int .u8 0, .int .u8 0, .int .i64 0, .str [], .nilSlice, .nilSlice, .int .i64 0, .int .i64 0, .int .i64 0] 47)) = AB v' k := fun v v' k => by rw [hAB, hAB, upd_swap q2, upd_upd]
     have hABa : ∀ v k, RAt r l k H (AB v k) := fun v k => by rw [hAB]; exact (hac.own hr2 q2 _).set k
     simp (disch := omega) only [go_sem, gc2, gc3, hlc];rw [show List.drop 2 (repl 1 [DVal.int .u8 0, DVal.nilSlice]) = [] from rfl];simp (disch := omega) only [go_sem, hlc, hoc];intro r28 h28; dsimp only at h28;simp (disch := omega) only [go_sem];intro r29 h29; dsimp only at h29;obtain ⟨H6, hH6⟩ : ∃ K, K = upd (upd Hc r28 (some (.cells (dCh c) 71))) r29 (some (.cells (dCh c) 71)) := ⟨_, rfl⟩;rw [← hH6];have s28 : Sub Hc (upd Hc r28 (some (.cells (dCh c) 71))) := (Sub.refl Hc).new h28 _;have hv6 : OwnJ Hc 71 2 1 (dCh c) (.oslice 2 r29 0 1 1) H6 := .inr ⟨r29, s28.lo h29, hlc, rfl, by rw [hH6]; exact upd_same _ _ _, by rw [hH6]; exact s28.new h29 _⟩;obtain ⟨v1, hv1⟩ : ∃ v1, v1 = DVal.oslice 2 r29 0 1 1 := ⟨_, rfl⟩;rw [← hv1] at hv6 ⊢
     have g62 := hv6.keep gc2;obtain ⟨k1a, k1b⟩ := hv6.cell1;simp (disch := omega) only [go_sem, g62, k1a, k1b];have hv7 : OwnCh (AB v1 k3) [c] v1 (upd H6 r2 (some (.cells [v1, .int .u8 0, .int .u8 0, .int .i64 0, .str [], .nilSlice, .nilSlice, .int .i64 0, .int .i64 0, .int .i64 0] 47))) := by
      have := hv6.at gc2 (some (.cells [v1, .int .u8 0, .int .u8 0, .int .i64 0, .str [], .nilSlice, .nilSlice, .int .i64 0, .int .i64 0, .int .i64 0] 47));rw [show AB v1 k3 = upd Hc r2 (some (.cells [v1, .int .u8 0, .int .u8 0, .int .i64 0, .str [], .nilSlice, .nilSlice, .int .i64 0, .int .i64 0, .int .i64 0] 47)) by rw [hAB]; exact upd_get (keepU hac.get n2)];unfold OwnCh;rw [List.flatMap_singleton]; exact this
     obtain ⟨I, hI⟩ : ∃ I : Nat × List Ch × Nat → (Nat → DVal) → DHeap → Prop, ∀ s env heap, I s env heap ↔ (env 0 = .optr r 0 ∧ env 2 = .optr r2 0 ∧ env 3 = .optr r3 0 ∧ s.2.2 ≤ l.length ∧ s.2.1.length ≤ s.2.2 ∧ s.1 ≤ n' ∧ L' (s.1 + 1) s.2.1 s.2.2 = L' (n' + 1) [c] k3 ∧ ∃ v, OwnCh (AB v s.2.2) s.2.1 v heap) := ⟨_, fun _ _ _ => Iff.rfl⟩;refine DLoop.run I (fun s => s.1) (n', [c], k3) ((hI _ _ _).2 ?_) ?_
     ·simp (disch := omega) only [go_sem];(repeat' apply And.intro) <;> (try first | rfl | assumption | omega);exact ⟨v1, hv7⟩
     ·rintro ⟨m, xs, k1⟩ env heap hi';obtain ⟨e0, e2, e3, hk1, hlen, hm, hLm, v, hv⟩ := (hI _ _ _).1 hi';dsimp only at hk1 hlen hm hLm hv;rw [hL] at hLm;have gr : heap r = some (rdO l k1) := OwnJ.keep hv (hABr _ _);have g2 := OwnJ.keep hv (hAB2 _ _);have g3 := OwnJ.keep hv (hAB3 _ _);by_cases c3 : c.kind = 3
      ·rw [if_neg (fun h => h.1 c3)] at hLm;simp (disch := omega) only [go_sem, e0, e2, e3, g3, gk, c3];refine (must_spec hG heap wArrow gr (by omega) (by omega)).mono ?_;intro e1 H8 hq;rw [← hLm, then_ok] at hres2;unfold must at hq hres2;by_cases b5 : isW l k1 [wArrow] = true
       ·rw [if_pos b5] at hq hres2;obtain ⟨rfl, hH8⟩ := hq;dsimp only at hres2;have hk5 := isW_lt b5 hk1;rw [List.length_singleton] at hk5;have hv8 : OwnCh (AB v (k1 + 1)) xs v H8 := by rw [hH8, ← hABk v k1]; exact OwnJ.at hv (hABr _ _) _
        simp (disch := omega) only [go_sem, e0, e2, e3];have hpk := hpa _ (k1 + 1) (OwnJ.keep hv8 (hABr _ _)) hk5;dsimp only at hpk;cases hpe : (P l (n' + 1)).expr (k1 + 1) with
        | bot => rw [hpe, then_bot] at hres2; rw [hres2] at hn; exact absurd rfl hn
        | fail k6 =>
         rw [hpe] at hpk;rw [hpe, then_fail] at hres2;refine (hpk (mp_ne (by simp))).mono ?_;rintro e H9 ⟨rfl, hH9⟩;have hv9 : OwnCh (AB v k6) xs v H9 := by rw [hH9, ← hABk v (k1 + 1)]; exact OwnJ.at hv8 (hABr _ _) _
         simp (disch := omega) only [go_sem];rw [hres2];exact RAt.finP ((hABa v k6).more (OwnJ.sub hv9)) ⟨rfl, rfl⟩
        | ok y k6 =>
         rw [hpe] at hpk;rw [hpe, then_ok] at hres2;refine (hpk (mp_ne (by simp))).mono ?_;rintro e H9 ⟨rfl, hH9⟩;have hv9 : OwnCh (AB v k6) xs v H9 := by rw [hH9, ← hABk v (k1 + 1)]; exact OwnJ.at hv8 (hABr _ _) _
         have g92 := OwnJ.keep hv9 (hAB2 v k6);obtain ⟨j1, j2⟩ := OwnJ.cell1 hv9;have hly := dEx_len y;have hoy := dEx_one y;simp (disch := omega) only [go_sem, e0, e2, e3, dE, g92, hly, hoy, j1, j2];rw [hres2];have hvf := fun z => OwnJ.less (OwnJ.at hv9 (hAB2 v k6) z) ((hABa v k6).own hr2 q2 z);refine Seen.fin (OwnJ.sub (hvf _)) (Seen.agg (Seen.assoc (c := xs) (OwnJ.sub (hvf _)) (Seen.own (hvf _)))) ⟨rfl, rfl⟩
       ·rw [if_neg b5] at hq hres2;obtain ⟨rfl, hH8⟩ := hq;have hv8 : OwnCh (AB v k1) xs v H8 := by rw [hH8, ← hABk v k1]; exact OwnJ.at hv (hABr _ _) _
        simp (disch := omega) only [go_sem];rw [hres2];exact RAt.finP ((hABa v k1).more (OwnJ.sub hv8)) ⟨rfl, rfl⟩
      ·simp (disch := omega) only [go_sem, e0, e2, e3, g3, gk, c3];intro w1 hw1; dsimp only at hw1;simp (disch := omega) only [go_sem, e0, e2, e3, g3, gk, c3];refine (may1 hG _ w1 wBar hw1 gr (by omega) (by omega)).mono ?_;rintro _ H4 ⟨rfl, hH4⟩;by_cases b : isW l k1 [wBar] = true
       ·rw [if_pos ⟨c3, b⟩] at hLm;rw [if_pos b] at hH4;have hk4 := isW_lt b hk1;rw [List.length_singleton] at hk4;have hv4 : OwnCh (AB v (k1 + 1)) xs v H4 := by rw [hH4, ← hABk v k1]; exact OwnJ.at hv (hABr _ _) _
        have g42 := OwnJ.keep hv4 (hAB2 _ _);simp (disch := omega) only [go_sem, e0, e2, e3, b];refine dwp_draws (by kernel_rfl) (.take 0 (.take 1 (.take 2 (.go 3 [1] (.go 4 [1] (.go 5 [] (.take 6 (.go 7 [] .done)))))))) (by kernel_rfl) ?_;simp (disch := omega) only [go_sem, e0, e2, e3, g42];have hp2 := hc m (by omega) _ (k1 + 1) (OwnJ.keep hv4 (hABr _ _)) hk4;have had2 := (P_adv (l := l) m).choice (k1 + 1) hk4;dsimp only at hp2;cases hpr2 : (P l m).choice (k1 + 1) with
        | bot =>
         rw [hpr2, then_bot] at hLm;rw [← hLm, then_bot] at hres2;rw [hres2] at hn; exact absurd rfl hn
        | fail k5 =>
         rw [hpr2] at hp2;rw [hpr2, then_fail] at hLm;rw [← hLm, then_fail] at hres2;refine (hp2 (mp_ne (by simp))).mono ?_;rintro e H5 ⟨rfl, hH5⟩;have hv5 : OwnCh (AB v k5) xs v H5 := by rw [hH5, ← hABk v (k1 + 1)]; exact OwnJ.at hv4 (hABr _ _) _
         simp (disch := omega) only [go_sem];rw [hres2];exact RAt.finP ((hABa v k5).more (OwnJ.sub hv5)) ⟨rfl, rfl⟩
        | ok a k5 =>
         rw [hpr2] at hp2 had2;rw [hpr2, then_ok] at hLm;dsimp only [Adv] at had2;refine (hp2 (mp_ne (by simp))).mono ?_;rintro e H5 ⟨rfl, hH5⟩;have hv5 : OwnCh (AB v k5) xs v H5 := by rw [hH5, ← hABk v (k1 + 1)]; exact OwnJ.at hv4 (hABr _ _) _
         have g52 := OwnJ.keep hv5 (hAB2 _ _);have hla2 := dCh_len a;simp (disch := omega) only [go_sem, e0, e2, e3, g42, g52, dC];rw [cells1Ch hla2];simp (disch := omega) only [go_sem, e0, e2, e3, g42, g52];intro r8 hr8; dsimp only at hr8;have n8 : r2 ≠ r8 := none_ne hr8 g52;simp (disch := omega) only [go_sem, e0, e2, e3, g52, n8];refine OwnJ.append (m := 1) (OwnJ.new hv5 hr8 _) (by rw [hla2]) (by omega) fun v2 H6 hv2 => ?_;have g62 := OwnJ.keep hv2 (hAB2 _ _);obtain ⟨j1, j2⟩ := OwnJ.cell1 hv2;simp (disch := omega) only [go_sem, e0, e2, e3, g62, j1, j2];obtain ⟨m', rfl⟩ : ∃ m', m = m' + 1 := by
          cases m with
          | zero => rw [hL0 c3] at hLm; rw [← hLm, then_bot] at hres2; rw [hres2] at hn; exact absurd rfl hn
          | succ m' => exact ⟨m', rfl⟩
         have hlen2 : (xs ++ [a]).length ≤ k5 := by rw [List.length_append, List.length_singleton]; omega
         have hv3 : OwnCh (AB v2 k5) (xs ++ [a]) v2 (upd H6 r2 (some (.cells [v2, .int .u8 0, .int .u8 0, .int .i64 0, .str [], .nilSlice, .nilSlice, .int .i64 0, .int .i64 0, .int .i64 0] 47))) := by
          have := OwnJ.at hv2 (hAB2 _ _) (some (.cells [v2, .int .u8 0, .int .u8 0, .int .i64 0, .str [], .nilSlice, .nilSlice, .int .i64 0, .int .i64 0, .int .i64 0] 47));rw [hABv] at this;unfold OwnCh;rw [List.length_append, List.length_singleton, List.flatMap_append, List.flatMap_singleton];exact this
         refine ⟨(m', xs ++ [a], k5), _, GhostS.refl _, (hI _ _ _).2 ?_, by dsimp only; omega⟩;simp (disch := omega) only [go_sem, e0, e2, e3];(repeat' apply And.intro) <;> (try first | rfl | assumption | omega);exact ⟨v2, hv3⟩
       ·have b' : isW l k1 [wBar] = false := by simpa using b
        rw [if_neg (fun h => b h.2)] at hLm;rw [if_neg b, upd_get gr] at hH4;rw [hH4];simp (disch := omega) only [go_sem, e0, e2, e3, b'];refine (must_spec hG heap wArrow gr (by omega) (by omega)).mono ?_;intro e1 H8 hq;rw [← hLm, then_ok] at hres2;unfold must at hq hres2;by_cases b5 : isW l k1 [wArrow] = true
        ·rw [if_pos b5] at hq hres2;obtain ⟨rfl, hH8⟩ := hq;dsimp only at hres2;have hk5 := isW_lt b5 hk1;rw [List.length_singleton] at hk5;have hv8 : OwnCh (AB v (k1 + 1)) xs v H8 := by rw [hH8, ← hABk v k1]; exact OwnJ.at hv (hABr _ _) _
         simp (disch := omega) only [go_sem, e0, e2, e3];have hpk := hpa _ (k1 + 1) (OwnJ.keep hv8 (hABr _ _)) hk5;dsimp only at hpk;cases hpe : (P l (n' + 1)).expr (k1 + 1) with
         | bot => rw [hpe, then_bot] at hres2; rw [hres2] at hn; exact absurd rfl hn
         | fail k6 =>
          rw [hpe] at hpk;rw [hpe, then_fail] at hres2;refine (hpk (mp_ne (by simp))).mono ?_;rintro e H9 ⟨rfl, hH9⟩;have hv9 : OwnCh (AB v k6) xs v H9 := by rw [hH9, ← hABk v (k1 + 1)]; exact OwnJ.at hv8 (hABr _ _) _
          simp (disch := omega) only [go_sem];rw [hres2];exact RAt.finP ((hABa v k6).more (OwnJ.sub hv9)) ⟨rfl, rfl⟩
         | ok y k6 =>
          rw [hpe] at hpk;rw [hpe, then_ok] at hres2;refine (hpk (mp_ne (by simp))).mono ?_;rintro e H9 ⟨rfl, hH9⟩;have hv9 : OwnCh (AB v k6) xs v H9 := by rw [hH9, ← hABk v (k1 + 1)]; exact OwnJ.at hv8 (hABr _ _) _
          have g92 := OwnJ.keep hv9 (hAB2 v k6);obtain ⟨j1, j2⟩ := OwnJ.cell1 hv9;have hly := dEx_len y;have hoy := dEx_one y;simp (disch := omega) only [go_sem, e0, e2, e3, dE, g92, hly, hoy, j1, j2];rw [hres2];have hvf := fun z => OwnJ.less (OwnJ.at hv9 (hAB2 v k6) z) ((hABa v k6).own hr2 q2 z);refine Seen.fin (OwnJ.sub (hvf _)) (Seen.agg (Seen.assoc (c := xs) (OwnJ.sub (hvf _)) (Seen.own (hvf _)))) ⟨rfl, rfl⟩
        ·rw [if_neg b5] at hq hres2;obtain ⟨rfl, hH8⟩ := hq;have hv8 : OwnCh (AB v k1) xs v H8 := by rw [hH8, ← hABk v k1]; exact OwnJ.at hv (hABr _ _) _
         simp (disch := omega) only [go_sem];rw [hres2];exact RAt.finP ((hABa v k1).more (OwnJ.sub hv8)) ⟨rfl, rfl⟩
    ·have b2' : isW l k3 [wArrow] = false := by simpa using b2
     rw [if_pos ⟨c1, b1', b2'⟩] at hres;obtain ⟨x, hx⟩ : ∃ x, c.l = [x] := by
      rcases choice_shape hpr with h | h | h
      ·rw [h.1] at c1; cases c1
      ·rw [h.1] at c1; cases c1
      ·exact h.2
     have gl : (dCh c)[1]? = some (.vslice (dEx x) 1) := by rw [dCh_1, hx, List.flatMap_singleton]; rfl
     rw [hx] at hres;have hlx := dEx_len x;have hox := dEx_one x;have htx : List.take 9 (List.drop 0 (dEx x)) = dEx x := List.take_of_length_le (by rw [List.drop_zero]; omega);simp (disch := omega) only [go_sem, b2', gc3, gl, hlx, htx, List.drop_zero, gc2, hox];rw [hres];have hat := fun z => hac.own hr2 q2 z;exact Seen.fin (hat _) (Seen.agg (Seen.assoc (c := []) (hat _) (.ch0 (hat _)))) ⟨rfl, rfl⟩
  ·simp (disch := omega) only [go_sem, gc3, gk, c1];have hnc : ¬ (c.kind = 1 ∧ isW l k3 [wBar] = false ∧ isW l k3 [wArrow] = false) := fun h => c1 h.1;have hsh := choice_shape hpr;obtain ⟨n', rfl⟩ : ∃ n', n = n' + 1 := by
    cases n with
    | zero => cases hpr
    | succ n' => exact ⟨n', rfl⟩
   obtain ⟨L', hL0, hL, hres2⟩ : ∃ L' : Nat → List Ch → Nat → Res (List Ch), (c.kind ≠ 3 → ∀ x k, L' 0 x k = .bot) ∧ (∀ m x k, L' (m + 1) x k = if c.kind ≠ 3 ∧ isW l k [wBar] = true then ((P l m).choice (k + 1)).then fun a k => L' m (x ++ [a]) k else .ok x k) ∧ res = (L' (n' + 1) [c] k3).then fun cs k => must l wArrow k fun k => ((P l (n' + 1)).expr k).then fun e k => .ok (.mk cs e) k := by
    rw [hres];by_cases c3 : c.kind = 3
    ·refine ⟨fun _ x k => .ok x k, fun h => absurd c3 h, fun m x k => by rw [if_neg (fun h => h.1 c3)], ?_⟩;rw [if_neg (fun h => by rw [c3] at h; exact absurd h.1 (by decide)), if_pos c3]; rfl
    ·refine ⟨fun m => (P l m).choicesL, fun _ _ _ => rfl, fun m x k => ?_, ?_⟩
     ·have e : (P l (m + 1)).choicesL x k = if isW l k [wBar] then ((P l m).choice (k + 1)).then fun c k => (P l m).choicesL (x ++ [c]) k else .ok x k := rfl
      show (P l (m + 1)).choicesL x k = _;rw [e];by_cases hb : isW l k [wBar] = true
      ·rw [if_pos hb, if_pos ⟨c3, hb⟩]
      ·rw [if_neg hb, if_neg (fun h => hb h.2)]
     ·rw [if_neg hnc, if_neg c3]
   obtain ⟨AB, hAB⟩ : ∃ AB : DVal → Nat → DHeap, ∀ v k, AB v k = upd (upd Hc r2 (some (.cells [v, .int .u8 0, .int .u8 0, .int .i64 0, .str [], .nilSlice, .nilSlice, .int .i64 0, .int .i64 0, .int .i64 0] 47))) r (some (rdO l k)) := ⟨_, fun _ _ => rfl⟩;have hABr : ∀ v k, AB v k r = some (rdO l k) := fun v k => by rw [hAB]; exact upd_same _ _ _
   have hAB2 : ∀ v k, AB v k r2 = some (.cells [v, .int .u8 0, .int .u8 0, .int .i64 0, .str [], .nilSlice, .nilSlice, .int .i64 0, .int .i64 0, .int .i64 0] 47) := fun v k => by rw [hAB, upd_ne _ _ _ _ q2]; exact upd_same _ _ _
   have hAB3 : ∀ v k, AB v k r3 = some (.cells (dCh c) 71) := fun v k => by rw [hAB, upd_ne _ _ _ _ q3, upd_ne _ _ _ _ m23]; exact gc3
   have hABk : ∀ v k k', upd (AB v k) r (some (rdO l k')) = AB v k' := fun v k k' => by rw [hAB, hAB, upd_upd]
   have hABv : ∀ v v' k, upd (AB v k) r2 (some (.cells [v', .int .u8 0, .int .u8 0, .int .i64 0, .str [], .nilSlice, .nilSlice, .int .i64 0, .int .i64 0, .int .i64 0] 47)) = AB v' k := fun v v' k => by rw [hAB, hAB, upd_swap q2, upd_upd]
   have hABa : ∀ v k, RAt r l k H (AB v k) := fun v k => by rw [hAB]; exact (hac.own hr2 q2 _).set k
   simp (disch := omega) only [go_sem, gc2, gc3, hlc];rw [show List.drop 2 (repl 1 [DVal.int .u8 0, DVal.nilSlice]) = [] from rfl];simp (disch := omega) only [go_sem, hlc, hoc];intro r28 h28; dsimp only at h28;simp (disch := omega) only [go_sem];intro r29 h29; dsimp only at h29;obtain ⟨H6, hH6⟩ : ∃ K, K = upd (upd Hc r28 (some (.cells (dCh c) 71))) r29 (some (.cells (dCh c) 71)) := ⟨_, rfl⟩;rw [← hH6];have s28 : Sub Hc (upd Hc r28 (some (.cells (dCh c) 71))) := (Sub.refl Hc).new h28 _;have hv6 : OwnJ Hc 71 2 1 (dCh c) (.oslice 2 r29 0 1 1) H6 := .inr ⟨r29, s28.lo h29, hlc, rfl, by rw [hH6]; exact upd_same _ _ _, by rw [hH6]; exact s28.new h29 _⟩;obtain ⟨v1, hv1⟩ : ∃ v1, v1 = DVal.oslice 2 r29 0 1 1 := ⟨_, rfl⟩;rw [← hv1] at hv6 ⊢
   have g62 := hv6.keep gc2;obtain ⟨k1a, k1b⟩ := hv6.cell1;simp (disch := omega) only [go_sem, g62, k1a, k1b];have hv7 : OwnCh (AB v1 k3) [c] v1 (upd H6 r2 (some (.cells [v1, .int .u8 0, .int .u8 0, .int .i64 0, .str [], .nilSlice, .nilSlice, .int .i64 0, .int .i64 0, .int .i64 0] 47))) := by
    have := hv6.at gc2 (some (.cells [v1, .int .u8 0, .int .u8 0, .int .i64 0, .str [], .nilSlice, .nilSlice, .int .i64 0, .int .i64 0, .int .i64 0] 47));rw [show AB v1 k3 = upd Hc r2 (some (.cells [v1, .int .u8 0, .int .u8 0, .int .i64 0, .str [], .nilSlice, .nilSlice, .int .i64 0, .int .i64 0, .int .i64 0] 47)) by rw [hAB]; exact upd_get (keepU hac.get n2)];unfold OwnCh;rw [List.flatMap_singleton]; exact this
   obtain ⟨I, hI⟩ : ∃ I : Nat × List Ch × Nat → (Nat → DVal) → DHeap → Prop, ∀ s env heap, I s env heap ↔ (env 0 = .optr r 0 ∧ env 2 = .optr r2 0 ∧ env 3 = .optr r3 0 ∧ s.2.2 ≤ l.length ∧ s.2.1.length ≤ s.2.2 ∧ s.1 ≤ n' ∧ L' (s.1 + 1) s.2.1 s.2.2 = L' (n' + 1) [c] k3 ∧ ∃ v, OwnCh (AB v s.2.2) s.2.1 v heap) := ⟨_, fun _ _ _ => Iff.rfl⟩;refine DLoop.run I (fun s => s.1) (n', [c], k3) ((hI _ _ _).2 ?_) ?_
   ·simp (disch := omega) only [go_sem];(repeat' apply And.intro) <;> (try first | rfl | assumption | omega);exact ⟨v1, hv7⟩
   ·rintro ⟨m, xs, k1⟩ env heap hi';obtain ⟨e0, e2, e3, hk1, hlen, hm, hLm, v, hv⟩ := (hI _ _ _).1 hi';dsimp only at hk1 hlen hm hLm hv;rw [hL] at hLm;have gr : heap r = some (rdO l k1) := OwnJ.keep hv (hABr _ _);have g2 := OwnJ.keep hv (hAB2 _ _);have g3 := OwnJ.keep hv (hAB3 _ _);by_cases c3 : c.kind = 3
    ·rw [if_neg (fun h => h.1 c3)] at hLm;simp (disch := omega) only [go_sem, e0, e2, e3, g3, gk, c3];refine (must_spec hG heap wArrow gr (by omega) (by omega)).mono ?_;intro e1 H8 hq;rw [← hLm, then_ok] at hres2;unfold must at hq hres2;by_cases b5 : isW l k1 [wArrow] = true
     ·rw [if_pos b5] at hq hres2;obtain ⟨rfl, hH8⟩ := hq;dsimp only at hres2;have hk5 := isW_lt b5 hk1;rw [List.length_singleton] at hk5;have hv8 : OwnCh (AB v (k1 + 1)) xs v H8 := by rw [hH8, ← hABk v k1]; exact OwnJ.at hv (hABr _ _) _
      simp (disch := omega) only [go_sem, e0, e2, e3];have hpk := hpa _ (k1 + 1) (OwnJ.keep hv8 (hABr _ _)) hk5;dsimp only at hpk;cases hpe : (P l (n' + 1)).expr (k1 + 1) with
      | bot => rw [hpe, then_bot] at hres2; rw [hres2] at hn; exact absurd rfl hn
      | fail k6 =>
       rw [hpe] at hpk;rw [hpe, then_fail] at hres2;refine (hpk (mp_ne (by simp))).mono ?_;rintro e H9 ⟨rfl, hH9⟩;have hv9 : OwnCh (AB v k6) xs v H9 := by rw [hH9, ← hABk v (k1 + 1)]; exact OwnJ.at hv8 (hABr _ _) _
       simp (disch := omega) only [go_sem];rw [hres2];exact RAt.finP ((hABa v k6).more (OwnJ.sub hv9)) ⟨rfl, rfl⟩
      | ok y k6 =>
       rw [hpe] at hpk;rw [hpe, then_ok] at hres2;refine (hpk (mp_ne (by simp))).mono ?_;rintro e H9 ⟨rfl, hH9⟩;have hv9 : OwnCh (AB v k6) xs v H9 := by rw [hH9, ← hABk v (k1 + 1)]; exact OwnJ.at hv8 (hABr _ _) _
       have g92 := OwnJ.keep hv9 (hAB2 v k6);obtain ⟨j1, j2⟩ := OwnJ.cell1 hv9;have hly := dEx_len y;have hoy := dEx_one y;simp (disch := omega) only [go_sem, e0, e2, e3, dE, g92, hly, hoy, j1, j2];rw [hres2];have hvf := fun z => OwnJ.less (OwnJ.at hv9 (hAB2 v k6) z) ((hABa v k6).own hr2 q2 z);refine Seen.fin (OwnJ.sub (hvf _)) (Seen.agg (Seen.assoc (c := xs) (OwnJ.sub (hvf _)) (Seen.own (hvf _)))) ⟨rfl, rfl⟩
     ·rw [if_neg b5] at hq hres2;obtain ⟨rfl, hH8⟩ := hq;have hv8 : OwnCh (AB v k1) xs v H8 := by rw [hH8, ← hABk v k1]; exact OwnJ.at hv (hABr _ _) _
      simp (disch := omega) only [go_sem];rw [hres2];exact RAt.finP ((hABa v k1).more (OwnJ.sub hv8)) ⟨rfl, rfl⟩
    ·simp (disch := omega) only [go_sem, e0, e2, e3, g3, gk, c3];intro w1 hw1; dsimp only at hw1;simp (disch := omega) only [go_sem, e0, e2, e3, g3, gk, c3];refine (may1 hG _ w1 wBar hw1 gr (by omega) (by omega)).mono ?_;rintro _ H4 ⟨rfl, hH4⟩;by_cases b : isW l k1 [wBar] = true
     ·rw [if_pos ⟨c3, b⟩] at hLm;rw [if_pos b] at hH4;have hk4 := isW_lt b hk1;rw [List.length_singleton] at hk4;have hv4 : OwnCh (AB v (k1 + 1)) xs v H4 := by rw [hH4, ← hABk v k1]; exact OwnJ.at hv (hABr _ _) _
      have g42 := OwnJ.keep hv4 (hAB2 _ _);simp (disch := omega) only [go_sem, e0, e2, e3, b];refine dwp_draws (by kernel_rfl) (.take 0 (.take 1 (.take 2 (.go 3 [1] (.go 4 [1] (.go 5 [] (.take 6 (.go 7 [] .done)))))))) (by kernel_rfl) ?_;simp (disch := omega) only [go_sem, e0, e2, e3, g42];have hp2 := hc m (by omega) _ (k1 + 1) (OwnJ.keep hv4 (hABr _ _)) hk4;have had2 := (P_adv (l := l) m).choice (k1 + 1) hk4;dsimp only at hp2;cases hpr2 : (P l m).choice (k1 + 1) with
      | bot =>
       rw [hpr2, then_bot] at hLm;rw [← hLm, then_bot] at hres2;rw [hres2] at hn; exact absurd rfl hn
      | fail k5 =>
       rw [hpr2] at hp2;rw [hpr2, then_fail] at hLm;rw [← hLm, then_fail] at hres2;refine (hp2 (mp_ne (by simp))).mono ?_;rintro e H5 ⟨rfl, hH5⟩;have hv5 : OwnCh (AB v k5) xs v H5 := by rw [hH5, ← hABk v (k1 + 1)]; exact OwnJ.at hv4 (hABr _ _) _
       simp (disch := omega) only [go_sem];rw [hres2];exact RAt.finP ((hABa v k5).more (OwnJ.sub hv5)) ⟨rfl, rfl⟩
      | ok a k5 =>
       rw [hpr2] at hp2 had2;rw [hpr2, then_ok] at hLm;dsimp only [Adv] at had2;refine (hp2 (mp_ne (by simp))).mono ?_;rintro e H5 ⟨rfl, hH5⟩;have hv5 : OwnCh (AB v k5) xs v H5 := by rw [hH5, ← hABk v (k1 + 1)]; exact OwnJ.at hv4 (hABr _ _) _
       have g52 := OwnJ.keep hv5 (hAB2 _ _);have hla2 := dCh_len a;simp (disch := omega) only [go_sem, e0, e2, e3, g42, g52, dC];rw [cells1Ch hla2];simp (disch := omega) only [go_sem, e0, e2, e3, g42, g52];intro r8 hr8; dsimp only at hr8;have n8 : r2 ≠ r8 := none_ne hr8 g52;simp (disch := omega) only [go_sem, e0, e2, e3, g52, n8];refine OwnJ.append (m := 1) (OwnJ.new hv5 hr8 _) (by rw [hla2]) (by omega) fun v2 H6 hv2 => ?_;have g62 := OwnJ.keep hv2 (hAB2 _ _);obtain ⟨j1, j2⟩ := OwnJ.cell1 hv2;simp (disch := omega) only [go_sem, e0, e2, e3, g62, j1, j2];obtain ⟨m', rfl⟩ : ∃ m', m = m' + 1 := by
        cases m with
        | zero => rw [hL0 c3] at hLm; rw [← hLm, then_bot] at hres2; rw [hres2] at hn; exact absurd rfl hn
        | succ m' => exact ⟨m', rfl⟩
       have hlen2 : (xs ++ [a]).length ≤ k5 := by rw [List.length_append, List.length_singleton]; omega
       have hv3 : OwnCh (AB v2 k5) (xs ++ [a]) v2 (upd H6 r2 (some (.cells [v2, .int .u8 0, .int .u8 0, .int .i64 0, .str [], .nilSlice, .nilSlice, .int .i64 0, .int .i64 0, .int .i64 0] 47))) := by
        have := OwnJ.at hv2 (hAB2 _ _) (some (.cells [v2, .int .u8 0, .int .u8 0, .int .i64 0, .str [], .nilSlice, .nilSlice, .int .i64 0, .int .i64 0, .int .i64 0] 47));rw [hABv] at this;unfold OwnCh;rw [List.length_append, List.length_singleton, List.flatMap_append, List.flatMap_singleton];exact this
       refine ⟨(m', xs ++ [a], k5), _, GhostS.refl _, (hI _ _ _).2 ?_, by dsimp only; omega⟩;simp (disch := omega) only [go_sem, e0, e2, e3];(repeat' apply And.intro) <;> (try first | rfl | assumption | omega);exact ⟨v2, hv3⟩
     ·have b' : isW l k1 [wBar] = false := by simpa using b
      rw [if_neg (fun h => b h.2)] at hLm;rw [if_neg b, upd_get gr] at hH4;rw [hH4];simp (disch := omega) only [go_sem, e0, e2, e3, b'];refine (must_spec hG heap wArrow gr (by omega) (by omega)).mono ?_;intro e1 H8 hq;rw [← hLm, then_ok] at hres2;unfold must at hq hres2;by_cases b5 : isW l k1 [wArrow] = true
      ·rw [if_pos b5] at hq hres2;obtain ⟨rfl, hH8⟩ := hq;dsimp only at hres2;have hk5 := isW_lt b5 hk1;rw [List.length_singleton] at hk5;have hv8 : OwnCh (AB v (k1 + 1)) xs v H8 := by rw [hH8, ← hABk v k1]; exact OwnJ.at hv (hABr _ _) _
       simp (disch := omega) only [go_sem, e0, e2, e3];have hpk := hpa _ (k1 + 1) (OwnJ.keep hv8 (hABr _ _)) hk5;dsimp only at hpk;cases hpe : (P l (n' + 1)).expr (k1 + 1) with
       | bot => rw [hpe, then_bot] at hres2; rw [hres2] at hn; exact absurd rfl hn
       | fail k6 =>
        rw [hpe] at hpk;rw [hpe, then_fail] at hres2;refine (hpk (mp_ne (by simp))).mono ?_;rintro e H9 ⟨rfl, hH9⟩;have hv9 : OwnCh (AB v k6) xs v H9 := by rw [hH9, ← hABk v (k1 + 1)]; exact OwnJ.at hv8 (hABr _ _) _
        simp (disch := omega) only [go_sem];rw [hres2];exact RAt.finP ((hABa v k6).more (OwnJ.sub hv9)) ⟨rfl, rfl⟩
       | ok y k6 =>
        rw [hpe] at hpk;rw [hpe, then_ok] at hres2;refine (hpk (mp_ne (by simp))).mono ?_;rintro e H9 ⟨rfl, hH9⟩;have hv9 : OwnCh (AB v k6) xs v H9 := by rw [hH9, ← hABk v (k1 + 1)]; exact OwnJ.at hv8 (hABr _ _) _
        have g92 := OwnJ.keep hv9 (hAB2 v k6);obtain ⟨j1, j2⟩ := OwnJ.cell1 hv9;have hly := dEx_len y;have hoy := dEx_one y;simp (disch := omega) only [go_sem, e0, e2, e3, dE, g92, hly, hoy, j1, j2];rw [hres2];have hvf := fun z => OwnJ.less (OwnJ.at hv9 (hAB2 v k6) z) ((hABa v k6).own hr2 q2 z);refine Seen.fin (OwnJ.sub (hvf _)) (Seen.agg (Seen.assoc (c := xs) (OwnJ.sub (hvf _)) (Seen.own (hvf _)))) ⟨rfl, rfl⟩
      ·rw [if_neg b5] at hq hres2;obtain ⟨rfl, hH8⟩ := hq;have hv8 : OwnCh (AB v k1) xs v H8 := by rw [hH8, ← hABk v k1]; exact OwnJ.at hv (hABr _ _) _
       simp (disch := omega) only [go_sem];rw [hres2];exact RAt.finP ((hABa v k1).more (OwnJ.sub hv8)) ⟨rfl, rfl⟩
end
end Go.Dl

-- Chapter 3: the package's reader: parentheses.
namespace Go.Dl
open Go Go.Proofs
set_option maxRecDepth 100000
def ifR (l : List Tok) (p : Nat → Res Ex) (line : Int) : List (List UInt8) → List Ex → Nat → Res Ex
 | [], xs, k => .ok (.mk 10 0 0 [] xs [] line 0 0) k
 | w :: ws, xs, k => (p k).then fun a k => must l w k fun k => ifR l p line ws (xs ++ [a]) k
section
variable {G : Nat → DVal} {H0 H H' : DHeap} {r k : Nat} {l : List Tok}
def OwnEx (H : DHeap) (l : List Ex) (v : DVal) (H' : DHeap) : Prop := OwnJ H 27 9 l.length (l.flatMap dEx) v H'
theorem cells1Ex {x : List DVal} (hx : x.length = 9) :
  (if 9 ≤ (repl 1 [DVal.int .u8 0, DVal.int .u8 0, DVal.int .i64 0, DVal.str [], DVal.nilSlice, DVal.nilSlice, DVal.int .i64 0, DVal.int .i64 0, DVal.int .i64 0]).length then some (x ++ List.drop 9 (repl 1 [DVal.int .u8 0, DVal.int .u8 0, DVal.int .i64 0, DVal.str [], DVal.nilSlice, DVal.nilSlice, DVal.int .i64 0, DVal.int .i64 0, DVal.int .i64 0])) else none) = some x := by
 have e : ∀ u : List DVal, repl 1 u = u := fun u => by simp [repl]
 rw [e, if_pos (by simp), List.drop_eq_nil_of_le (by simp), List.append_nil]
set_option maxHeartbeats 4000000 in
theorem paren_step (hG : GX G) (hl : l.length ≤ 800000) (n : Nat) (hpa : RdC Tryz.prog G l 62 r fun k => ((P l n).expr k).mp dE) (hc : ∀ m ≤ n, RdC Tryz.prog G l 177 r fun k => ((P l m).assoc k).mp dA) : RdC Tryz.prog G l 127 r fun k => ((P l (n + 1)).paren k).mp dE := by
 intro H k hr hk hn
 obtain ⟨li, hli⟩ : ∃ li, li = (tk l k).line := ⟨_, rfl⟩
 have e : (P l (n + 1)).paren k = must l wOpen k fun k1 => if isW l k1 [wIf] then ifR l (P l n).expr (tk l (k1 - 1)).line [wThen, wElse, wShut] [] (k1 + 1) else (((P l n).assoc k1).then fun a k => (P l n).assocsL [a] k).then fun xs k => must l wShut k fun k => .ok (aggr (tk l (k1 - 1)).line xs) k := by
  have hth : ∀ (a : Res As) (f : As → Nat → Res (List As)) (g : List As → Nat → Res Ex), (a.then f).then g = a.then fun x k => (f x k).then g := fun a f g => by cases a <;> rfl
  simp only [hth]; rfl
 dsimp only at hn ⊢
 rw [e] at hn ⊢
 obtain ⟨res, hres⟩ : ∃ res, res = must l wOpen k fun k1 => if isW l k1 [wIf] then ifR l (P l n).expr (tk l (k1 - 1)).line [wThen, wElse, wShut] [] (k1 + 1) else (((P l n).assoc k1).then fun a k => (P l n).assocsL [a] k).then fun xs k => must l wShut k fun k => .ok (aggr (tk l (k1 - 1)).line xs) k := ⟨_, rfl⟩
 rw [← hres] at hn ⊢
 refine dcalls_intro Tryz.func127 Tryz.call127 rfl (by kernel_rfl) ?_
 simp (disch := omega) only [go_sem]
 intro r2 hr2; dsimp only at hr2
 obtain ⟨Ha, hHa⟩ : ∃ K, K = upd H r2 (some (.cells [.int .u8 0, .int .u8 0, .int .i64 0, .str [], .nilSlice, .nilSlice, .int .i64 0, .int .i64 0, .int .i64 0] 27)) := ⟨_, rfl⟩
 rw [← hHa]
 have gr2 : Ha r2 = some (.cells [.int .u8 0, .int .u8 0, .int .i64 0, .str [], .nilSlice, .nilSlice, .int .i64 0, .int .i64 0, .int .i64 0] 27) := by rw [hHa]; exact upd_same _ _ _
 have n2 : r ≠ r2 := none_ne hr2 hr
 have q2 := n2.symm
 have ha : RAt r l k H Ha := by rw [hHa]; exact (RAt.refl hr).new hr2 _
 simp (disch := omega) only [go_sem]
 refine (line_spec G _ ha.get (by omega) (by omega)).mono ?_
 rintro _ H1 ⟨rfl, hH1⟩
 rw [hH1, ← hli]
 simp (disch := omega) only [go_sem]
 intro r3 hr3; dsimp only at hr3
 simp (disch := omega) only [go_sem]
 obtain ⟨Hb, hHb⟩ : ∃ K, K = upd Ha r3 (some (.cells [.int .u8 9, .int .u8 0, .int .i64 0, .str [], .nilSlice, .nilSlice, .int .i64 li, .int .i64 0, .int .i64 0] 27)) := ⟨_, rfl⟩
 rw [← hHb]
 have gr3 : Hb r3 = some (.cells [.int .u8 9, .int .u8 0, .int .i64 0, .str [], .nilSlice, .nilSlice, .int .i64 li, .int .i64 0, .int .i64 0] 27) := by rw [hHb]; exact upd_same _ _ _
 have n23 : r2 ≠ r3 := none_ne hr3 gr2
 have m23 := n23.symm
 have n3 : r ≠ r3 := none_ne hr3 ha.get
 have q3 := n3.symm
 have h30 : H r3 = none := ha.lo hr3
 have hab : RAt r l k H Hb := by rw [hHb]; exact ha.new hr3 _
 have gb2 : Hb r2 = some (.cells [.int .u8 0, .int .u8 0, .int .i64 0, .str [], .nilSlice, .nilSlice, .int .i64 0, .int .i64 0, .int .i64 0] 27) := by rw [hHb]; exact keepU gr2 n23
 refine (must_spec hG Hb wOpen hab.get (by omega) (by omega)).mono ?_
 intro e1 H2 hq
 unfold must at hq hres
 by_cases b0 : isW l k [wOpen] = true
 ·rw [if_pos b0] at hq hres
  obtain ⟨rfl, hH2⟩ := hq
  dsimp only at hres
  rw [Nat.add_sub_cancel, ← hli] at hres
  have hk1 := isW_lt b0 hk
  rw [List.length_singleton] at hk1
  obtain ⟨k1, hk1e⟩ : ∃ k1, k1 = k + 1 := ⟨_, rfl⟩
  rw [← hk1e] at hres hH2 hk1
  have ha2 : RAt r l k1 H H2 := by rw [hH2]; exact hab.set k1
  have g22 : H2 r2 = some (.cells [.int .u8 0, .int .u8 0, .int .i64 0, .str [], .nilSlice, .nilSlice, .int .i64 0, .int .i64 0, .int .i64 0] 27) := by rw [hH2]; exact keepU gb2 q2
  have g23 : H2 r3 = some (.cells [.int .u8 9, .int .u8 0, .int .i64 0, .str [], .nilSlice, .nilSlice, .int .i64 li, .int .i64 0, .int .i64 0] 27) := by rw [hH2]; exact keepU gr3 q3
  simp (disch := omega) only [go_sem]
  intro w1 hw1; dsimp only at hw1
  simp (disch := omega) only [go_sem]
  refine (may1 hG _ w1 wIf hw1 ha2.get (by omega) (by omega)).mono ?_
  rintro _ H4 ⟨rfl, hH4⟩
  by_cases b1 : isW l k1 [wIf] = true
  ·rw [if_pos b1] at hH4 hres
   have hk2 := isW_lt b1 hk1
   rw [List.length_singleton] at hk2
   have ha4 : RAt r l (k1 + 1) H H4 := by rw [hH4]; exact ha2.set _
   have g42 : H4 r2 = some (.cells [.int .u8 0, .int .u8 0, .int .i64 0, .str [], .nilSlice, .nilSlice, .int .i64 0, .int .i64 0, .int .i64 0] 27) := by rw [hH4]; exact keepU g22 q2
   have g43 : H4 r3 = some (.cells [.int .u8 9, .int .u8 0, .int .i64 0, .str [], .nilSlice, .nilSlice, .int .i64 li, .int .i64 0, .int .i64 0] 27) := by rw [hH4]; exact keepU g23 q3
   simp (disch := omega) only [go_sem, b1, g43]
   obtain ⟨H5, hH5⟩ : ∃ K, K = upd H4 r3 (some (.cells [.int .u8 10, .int .u8 0, .int .i64 0, .str [], .nilSlice, .nilSlice, .int .i64 li, .int .i64 0, .int .i64 0] 27)) := ⟨_, rfl⟩
   rw [← hH5]
   have ha5 : RAt r l (k1 + 1) H H5 := by rw [hH5]; exact ha4.own h30 q3 _
   have g53 : H5 r3 = some (.cells [.int .u8 10, .int .u8 0, .int .i64 0, .str [], .nilSlice, .nilSlice, .int .i64 li, .int .i64 0, .int .i64 0] 27) := by rw [hH5]; exact upd_same _ _ _
   have g52 : H5 r2 = some (.cells [.int .u8 0, .int .u8 0, .int .i64 0, .str [], .nilSlice, .nilSlice, .int .i64 0, .int .i64 0, .int .i64 0] 27) := by rw [hH5]; exact keepU g42 n23
   intro w15 hw15; dsimp only at hw15
   obtain ⟨Hk, hHk⟩ : ∃ K, K = upd H5 w15 (some (.cells [.str [116, 104, 101, 110], .str [101, 108, 115, 101], .str [41]] 9)) := ⟨_, rfl⟩
   rw [← hHk]
   have gw15 : Hk w15 = some (.cells [.str [116, 104, 101, 110], .str [101, 108, 115, 101], .str [41]] 9) := by rw [hHk]; exact upd_same _ _ _
   have n15 : r3 ≠ w15 := none_ne hw15 g53
   have n152 : r2 ≠ w15 := none_ne hw15 g52
   have n15r : r ≠ w15 := none_ne hw15 ha5.get
   have hak : RAt r l (k1 + 1) H Hk := by rw [hHk]; exact ha5.new hw15 _
   have gk3 : Hk r3 = some (.cells [.int .u8 10, .int .u8 0, .int .i64 0, .str [], .nilSlice, .nilSlice, .int .i64 li, .int .i64 0, .int .i64 0] 27) := by rw [hHk]; exact keepU g53 n15
   have gk2 : Hk r2 = some (.cells [.int .u8 0, .int .u8 0, .int .i64 0, .str [], .nilSlice, .nilSlice, .int .i64 0, .int .i64 0, .int .i64 0] 27) := by rw [hHk]; exact keepU g52 n152
   obtain ⟨AB, hAB⟩ : ∃ AB : DVal → Nat → DHeap, ∀ v k, AB v k = upd (upd Hk r3 (some (.cells [.int .u8 10, .int .u8 0, .int .i64 0, .str [], v, .nilSlice, .int .i64 li, .int .i64 0, .int .i64 0] 27))) r (some (rdO l k)) := ⟨_, fun _ _ => rfl⟩
   have hABr : ∀ v k, AB v k r = some (rdO l k) := fun v k => by rw [hAB]; exact upd_same _ _ _
   have hAB3 : ∀ v k, AB v k r3 = some (.cells [.int .u8 10, .int .u8 0, .int .i64 0, .str [], v, .nilSlice, .int .i64 li, .int .i64 0, .int .i64 0] 27) := fun v k => by rw [hAB, upd_ne _ _ _ _ q3]; exact upd_same _ _ _
   have hAB2 : ∀ v k, AB v k r2 = some (.cells [.int .u8 0, .int .u8 0, .int .i64 0, .str [], .nilSlice, .nilSlice, .int .i64 0, .int .i64 0, .int .i64 0] 27) := fun v k => by rw [hAB, upd_ne _ _ _ _ q2, upd_ne _ _ _ _ n23]; exact gk2
   have hABw : ∀ v k, AB v k w15 = some (.cells [.str [116, 104, 101, 110], .str [101, 108, 115, 101], .str [41]] 9) := fun v k => by rw [hAB, upd_ne _ _ _ _ n15r.symm, upd_ne _ _ _ _ n15.symm]; exact gw15
   have hABk : ∀ v k k', upd (AB v k) r (some (rdO l k')) = AB v k' := fun v k k' => by rw [hAB, hAB, upd_upd]
   have hABv : ∀ v v' k, upd (AB v k) r3 (some (.cells [.int .u8 10, .int .u8 0, .int .i64 0, .str [], v', .nilSlice, .int .i64 li, .int .i64 0, .int .i64 0] 27)) = AB v' k := fun v v' k => by rw [hAB, hAB, upd_swap q3, upd_upd]
   have hABa : ∀ v k, RAt r l k H (AB v k) := fun v k => by rw [hAB]; exact (hak.own h30 q3 _).set k
   have hv0 : OwnEx (AB .nilSlice (k1 + 1)) [] .nilSlice Hk := by
    rw [hAB, upd_get gk3, upd_get hak.get]; exact OwnJ.nil _ _ (Sub.refl _)
   simp (disch := omega) only [go_sem]
   obtain ⟨I, hI⟩ : ∃ I : Nat × List Ex × Nat → (Nat → DVal) → DHeap → Prop, ∀ s env heap, I s env heap ↔ (env 0 = .optr r 0 ∧ env 2 = .optr r2 0 ∧ env 3 = .optr r3 0 ∧ env 15 = .oslice 1 w15 0 3 3 ∧ env 16 = dI 3 ∧ env 17 = dI s.1 ∧ s.1 ≤ 3 ∧ s.2.1.length = s.1 ∧ s.2.2 ≤ l.length ∧ res = ifR l (P l n).expr li ([wThen, wElse, wShut].drop s.1) s.2.1 s.2.2 ∧ ∃ v, OwnEx (AB v s.2.2) s.2.1 v heap) := ⟨_, fun _ _ _ => Iff.rfl⟩
   refine DLoop.run I (fun s => 3 - s.1) (0, [], k1 + 1) ((hI _ _ _).2 ?_) ?_
   ·simp (disch := omega) only [go_sem]
    (repeat' apply And.intro) <;> (try first | rfl | assumption | omega)
    exact ⟨_, hv0⟩
   ·rintro ⟨j, xs, k2⟩ env heap hi'
    obtain ⟨e0, e2, e3, e15, e16, e17, hj, hxl, hk2', hr2', v, hv⟩ := (hI _ _ _).1 hi'
    dsimp only at e17 hj hxl hk2' hr2' hv
    by_cases c : j < 3
    ·have c' : (j : Int) < 3 := by omega
     obtain ⟨w, hw, hwd⟩ : ∃ w, ([DVal.str [116, 104, 101, 110], .str [101, 108, 115, 101], .str [41]])[j]? = some (.str w) ∧ [wThen, wElse, wShut].drop j = w :: [wThen, wElse, wShut].drop (j + 1) := by
      have : j = 0 ∨ j = 1 ∨ j = 2 := by omega
      rcases this with rfl | rfl | rfl <;> exact ⟨_, rfl, rfl⟩
     rw [hwd, ifR] at hr2'
     have g15 := OwnJ.keep hv (hABw _ _)
     have g3 := OwnJ.keep hv (hAB3 _ _)
     simp (disch := omega) only [go_sem, e0, e2, e3, e15, e16, e17, c', g15, hw, Int.toNat_natCast]
     refine dwp_draws (by kernel_rfl) (.take 0 (.take 1 (.take 2 (.go 3 [1] (.go 4 [1] (.go 5 [] (.take 6 (.go 7 [] .done)))))))) (by kernel_rfl) ?_
     simp (disch := omega) only [go_sem, e0, e2, e3, e15, e16, e17, g3]
     have hpk := hpa _ k2 (OwnJ.keep hv (hABr _ _)) hk2'
     have had := (P_adv (l := l) n).expr k2 hk2'
     dsimp only at hpk
     cases hpe : (P l n).expr k2 with
     | bot => rw [hpe, then_bot] at hr2'; rw [hr2'] at hn; exact absurd rfl hn
     | fail k6 =>
      rw [hpe] at hpk
      rw [hpe, then_fail] at hr2'
      refine (hpk (mp_ne (by simp))).mono ?_
      rintro e H9 ⟨rfl, hH9⟩
      have hv9 : OwnEx (AB v k6) xs v H9 := by rw [hH9, ← hABk v k2]; exact OwnJ.at hv (hABr _ _) _
      simp (disch := omega) only [go_sem]
      rw [hr2']
      exact RAt.finP ((hABa v k6).more (OwnJ.sub hv9)) ⟨rfl, rfl⟩
     | ok y k6 =>
      rw [hpe] at hpk had
      rw [hpe, then_ok] at hr2'
      dsimp only [Adv] at had
      refine (hpk (mp_ne (by simp))).mono ?_
      rintro e H9 ⟨rfl, hH9⟩
      have hv9 : OwnEx (AB v k6) xs v H9 := by rw [hH9, ← hABk v k2]; exact OwnJ.at hv (hABr _ _) _
      have g93 := OwnJ.keep hv9 (hAB3 _ _)
      have hly := dEx_len y
      simp (disch := omega) only [go_sem, e0, e2, e3, e15, e16, e17, g3, g93, dE]
      rw [cells1Ex hly]
      simp (disch := omega) only [go_sem, e0, e2, e3, e15, e16, e17, g3, g93]
      intro r8 hr8; dsimp only at hr8
      have n8 : r3 ≠ r8 := none_ne hr8 g93
      simp (disch := omega) only [go_sem, e0, e2, e3, e15, e16, e17, g93, n8]
      refine OwnJ.append (m := 1) (OwnJ.new hv9 hr8 _) (by rw [hly]) (by omega) fun v2 H10 hv2 => ?_
      have g103 := OwnJ.keep hv2 (hAB3 _ _)
      obtain ⟨j1, j2⟩ := OwnJ.cell1 hv2
      simp (disch := omega) only [go_sem, e0, e2, e3, e15, e16, e17, g103, j1, j2]
      have hv3 : OwnEx (AB v2 k6) (xs ++ [y]) v2 (upd H10 r3 (some (.cells [.int .u8 10, .int .u8 0, .int .i64 0, .str [], v2, .nilSlice, .int .i64 li, .int .i64 0, .int .i64 0] 27))) := by
       have := OwnJ.at hv2 (hAB3 _ _) (some (.cells [.int .u8 10, .int .u8 0, .int .i64 0, .str [], v2, .nilSlice, .int .i64 li, .int .i64 0, .int .i64 0] 27))
       rw [hABv] at this
       unfold OwnEx
       rw [List.length_append, List.length_singleton, List.flatMap_append, List.flatMap_singleton]
       exact this
      obtain ⟨H11, hH11⟩ : ∃ K, K = upd H10 r3 (some (.cells [.int .u8 10, .int .u8 0, .int .i64 0, .str [], v2, .nilSlice, .int .i64 li, .int .i64 0, .int .i64 0] 27)) := ⟨_, rfl⟩
      rw [← hH11] at hv3 ⊢
      refine (must_spec hG H11 w (OwnJ.keep hv3 (hABr _ _)) (by omega) (by omega)).mono ?_
      intro e1 H12 hq
      unfold must at hq hr2'
      by_cases b5 : isW l k6 [w] = true
      ·rw [if_pos b5] at hq hr2'
       obtain ⟨rfl, hH12⟩ := hq
       dsimp only at hr2'
       have hk5 := isW_lt b5 had.2
       rw [List.length_singleton] at hk5
       have hv4 : OwnEx (AB v2 (k6 + 1)) (xs ++ [y]) v2 H12 := by rw [hH12, ← hABk v2 k6]; exact OwnJ.at hv3 (hABr _ _) _
       have hwj : IntKind.i64.wrap ((j : Int) + 1) = ((j + 1 : Nat) : Int) := by rw [IntKind.wrap_i64]; omega
       simp (disch := omega) only [go_sem, e0, e2, e3, e15, e16, e17]
       refine ⟨(j + 1, xs ++ [y], k6 + 1), _, GhostS.refl _, (hI _ _ _).2 ?_, by dsimp only; omega⟩
       simp (disch := omega) only [go_sem, e0, e2, e3, e15, e16, e17, hwj]
       (repeat' apply And.intro) <;> (try first | rfl | assumption | omega)
       ·rw [List.length_append, List.length_singleton]; omega
       ·exact ⟨v2, hv4⟩
      ·rw [if_neg b5] at hq hr2'
       obtain ⟨rfl, hH12⟩ := hq
       have hv4 : OwnEx (AB v2 k6) (xs ++ [y]) v2 H12 := by rw [hH12, ← hABk v2 k6]; exact OwnJ.at hv3 (hABr _ _) _
       simp (disch := omega) only [go_sem]
       rw [hr2']
       exact RAt.finP ((hABa v2 k6).more (OwnJ.sub hv4)) ⟨rfl, rfl⟩
    ·have hj3 : j = 3 := by omega
     subst hj3
     have c' : ¬ ((3 : Nat) : Int) < 3 := by omega
     rw [show [wThen, wElse, wShut].drop 3 = [] from rfl, ifR] at hr2'
     have g3 := OwnJ.keep hv (hAB3 _ _)
     have g2 := OwnJ.keep hv (hAB2 _ _)
     obtain ⟨j1, j2⟩ := OwnJ.cell1 hv
     simp (disch := omega) only [go_sem, e0, e2, e3, e15, e16, e17, c', g3, g2, j1, j2]
     rw [hr2']
     have hvf := fun z => OwnJ.less (OwnJ.at hv (hAB2 v k2) z) ((hABa v k2).own hr2 q2 z)
     exact Seen.fin (OwnJ.sub (hvf _)) (Seen.agg (Seen.ex (l := xs) (OwnJ.sub (hvf _)) (Seen.own (hvf _)) (.as0 (OwnJ.sub (hvf _))))) ⟨rfl, rfl⟩
  ·have b1' : isW l k1 [wIf] = false := by simpa using b1
   rw [if_neg b1, upd_get ha2.get] at hH4
   rw [if_neg b1] at hres
   rw [hH4]
   simp (disch := omega) only [go_sem, b1']
   have hs := severalAs hG hl 177 (fun m => (P l m).assoc) (fun m => (P l m).assocsL) wComma (fun _ _ => rfl) (fun _ _ _ => rfl) (fun m k hk => (P_adv m).assoc k hk) n hc H2 k1 ha2.get hk1 (fun h => hn (by rw [hres, h]; rfl))
   refine hs.mono ?_
   intro e1 H5 hq5
   cases hcc : (((P l n).assoc k1).then fun a k => (P l n).assocsL [a] k) with
   | bot => rw [hcc] at hq5; exact hq5.elim
   | fail k3 =>
    rw [hcc] at hq5
    rw [hcc, then_fail] at hres
    obtain ⟨rfl, hH5⟩ := hq5
    simp (disch := omega) only [go_sem]
    rw [hres]
    exact RAt.finP (by rw [hH5]; exact ha2.set k3) ⟨rfl, rfl⟩
   | ok xs k3 =>
    rw [hcc] at hq5
    rw [hcc, then_ok] at hres
    obtain ⟨rfl, hH5⟩ := hq5
    have hk3 : k3 ≤ l.length := by
     have := adv_then ((P_adv (l := l) n).assoc k1 hk1) (fun a j h1 h2 => (P_adv (l := l) n).assocsL [a] j h2 |> fun h => adv_less h h1)
     rw [hcc] at this
     exact this.2
    have ha5 : RAt r l k3 H H5 := by rw [hH5]; exact ha2.set _
    have g53 : H5 r3 = some (.cells [.int .u8 9, .int .u8 0, .int .i64 0, .str [], .nilSlice, .nilSlice, .int .i64 li, .int .i64 0, .int .i64 0] 27) := by rw [hH5]; exact keepU g23 q3
    have g52 : H5 r2 = some (.cells [.int .u8 0, .int .u8 0, .int .i64 0, .str [], .nilSlice, .nilSlice, .int .i64 0, .int .i64 0, .int .i64 0] 27) := by rw [hH5]; exact keepU g22 q2
    simp (disch := omega) only [go_sem, dAl, g53]
    obtain ⟨H6, hH6⟩ : ∃ K, K = upd H5 r3 (some (.cells [.int .u8 9, .int .u8 0, .int .i64 0, .str [], .nilSlice, .vslice (xs.flatMap dAs) xs.length, .int .i64 li, .int .i64 0, .int .i64 0] 27)) := ⟨_, rfl⟩
    rw [← hH6]
    have ha6 : RAt r l k3 H H6 := by rw [hH6]; exact ha5.own h30 q3 _
    have g63 : H6 r3 = some (.cells [.int .u8 9, .int .u8 0, .int .i64 0, .str [], .nilSlice, .vslice (xs.flatMap dAs) xs.length, .int .i64 li, .int .i64 0, .int .i64 0] 27) := by rw [hH6]; exact upd_same _ _ _
    have g62 : H6 r2 = some (.cells [.int .u8 0, .int .u8 0, .int .i64 0, .str [], .nilSlice, .nilSlice, .int .i64 0, .int .i64 0, .int .i64 0] 27) := by rw [hH6]; exact keepU g52 n23
    refine (must_spec hG H6 wShut ha6.get (by omega) (by omega)).mono ?_
    intro e1 H7 hq7
    unfold must at hq7
    by_cases b5 : isW l k3 [wShut] = true
    ·rw [if_pos b5] at hq7 hres
     obtain ⟨rfl, hH7⟩ := hq7
     have ha7 : RAt r l (k3 + 1) H H7 := by rw [hH7]; exact ha6.set _
     have g73 : H7 r3 = some (.cells [.int .u8 9, .int .u8 0, .int .i64 0, .str [], .nilSlice, .vslice (xs.flatMap dAs) xs.length, .int .i64 li, .int .i64 0, .int .i64 0] 27) := by rw [hH7]; exact keepU g63 q3
     have g72 : H7 r2 = some (.cells [.int .u8 0, .int .u8 0, .int .i64 0, .str [], .nilSlice, .nilSlice, .int .i64 0, .int .i64 0, .int .i64 0] 27) := by rw [hH7]; exact keepU g62 q2
     have hat := fun z => ha7.own hr2 q2 z
     by_cases c1 : xs.length = 1
     ·obtain ⟨x, rfl⟩ := List.length_eq_one_iff.1 c1
      have hlx := dAs_len x
      have hge := dAs_1 x
      have hle := dEx_len x.e
      have hoe := dEx_one x.e
      rw [List.flatMap_singleton] at g73
      by_cases c2 : x.c = []
      ·have c2' : x.c.length = 0 := by rw [c2]; rfl
       simp (disch := omega) only [go_sem, g73, g72, List.length_singleton, List.flatMap_singleton, hlx, c2']
       try simp (disch := omega) only [go_sem, hge, hle, hoe]
       rw [hres, aggr, if_pos c2]
       exact RAt.fin (hat _) ⟨rfl, rfl⟩
      ·have c2' : ¬ (x.c.length : Int) = 0 := fun h => c2 (List.length_eq_zero_iff.1 (by omega))
       simp (disch := omega) only [go_sem, g73, g72, List.length_singleton, List.flatMap_singleton, hlx, c2']
       rw [hres, aggr, if_neg c2]
       exact Seen.fin (hat _) (Seen.agg (Seen.ex (a := [x]) (hat _) (.exs0 (hat _)) (by rw [dAl, List.flatMap_singleton]; exact Seen.keep (hat _) _))) ⟨rfl, rfl⟩
     ·have c1' : ¬ (xs.length : Int) = 1 := by omega
      simp (disch := omega) only [go_sem, g73, g72, c1']
      have hag : aggr li xs = .mk 9 0 0 [] [] xs li 0 0 := by
       match xs, c1 with
       | [], _ => rfl
       | [x], h => exact absurd rfl h
       | x :: y :: zs, _ => rfl
      rw [hres, hag]
      exact Seen.fin (hat _) (Seen.agg (Seen.ex (a := xs) (hat _) (.exs0 (hat _)) (Seen.keep (hat _) _))) ⟨rfl, rfl⟩
    ·rw [if_neg b5] at hq7 hres
     obtain ⟨rfl, hH7⟩ := hq7
     simp (disch := omega) only [go_sem]
     rw [hres]
     exact RAt.finP (by rw [hH7]; exact ha6.set k3) ⟨rfl, rfl⟩
 ·rw [if_neg b0] at hq hres
  obtain ⟨rfl, hH2⟩ := hq
  simp (disch := omega) only [go_sem]
  rw [hres]
  exact RAt.finP (by rw [hH2]; exact hab.set k) ⟨rfl, rfl⟩
end
end Go.Dl

-- Chapter 3: the package's reader: names.
namespace Go.Dl
open Go Go.Proofs
set_option maxRecDepth 100000
section
variable {G : Nat → DVal} {H0 H H' K T B : DHeap} {r k : Nat} {l : List Tok}
theorem lastsD (hd : ∀ b, K b = none → T b = none) (w : World) : Lasts K w T w := ⟨fun b i x hb hc => ⟨hd b hb, hc⟩, Nat.le_refl _, fun _ _ => rfl⟩
theorem Seen.keepD (hd : ∀ b, K b = none → T b = none) (v : DVal) : Seen K v T v := fun w _ x hx => Rel.lasts (lastsD hd w) _ _ hx
theorem Seens.keepD (hd : ∀ b, K b = none → T b = none) (vs : List DVal) : Seens K vs T vs := fun w _ x hx => RelL.lasts (lastsD hd w) _ _ hx
theorem Seen.cellsD {e : TypeId} {size q n : Nat} {cs cs' : List DVal} (hr : T q = none) (hc : K q = some (.cells cs e)) (hl : cs.length = n * size) (hs : Seens K cs T cs') : Seen K (.oslice size q 0 n n) T (.vslice cs' n) := fun w hw x hx => by
 simp only [Rel] at hx ⊢
 obtain ⟨o, cap, rfl, h1, h2, h3, h4⟩ := hx;refine ⟨_, cap, rfl, h2, ?_⟩;by_cases h0 : cs = []
 ·subst h0;have := hs w hw [] (by simp [RelL]);cases cs' with
  | nil => exact .inl rfl
  | cons c cs' => simp [RelL] at this
 ·obtain ⟨zs, hl1, hh⟩ := hw.holds hc;have ho : o = 0 := by
   rcases h3 with h3 | h3
   ·exfalso;have : n = 0 := by omega
    subst this;rw [Nat.zero_mul] at hl;exact h0 (List.length_eq_zero_iff.1 hl)
   ·exact h3
  subst ho;exact .inr ⟨q, 0, zs, rfl, .inr ⟨hr, fun i y hy => by simpa using hh i y hy⟩, hs w hw zs hl1⟩
theorem Seen.ownD {e : TypeId} {size n : Nat} {cs : List DVal} {v : DVal} (hd : ∀ b, K b = none → T b = none) (hT : ∀ b, B b = none → T b = none) (hv : OwnJ B e size n cs v K) : Seen K v T (.vslice cs n) := by
 rcases hv with ⟨rfl, rfl, rfl, _⟩ | ⟨q, h1, h2, rfl, h4, _⟩
 ·exact fun w _ x hx => Rel.lasts (lastsD hd w) _ _ (DLe.nil w K x hx)
 ·exact Seen.cellsD (hT q h1) h4 h2 (Seens.keepD hd _)
theorem Seens.exD {k o n : Int} {s : List UInt8} {vl va : DVal} {m : List Ex} {a : List As} {li en t : Int} (hd : ∀ b, K b = none → T b = none) (hl : Seen K vl T (dXs m)) (ha : Seen K va T (dAl a)) :
  Seens K [.int .u8 k, .int .u8 o, .int .i64 n, .str s, vl, va, .int .i64 li, .int .i64 en, .int .i64 t] T (dEx (.mk k o n s m a li en t)) := by
 rw [dEx_mk];exact .cons (.keepD hd _) (.cons (.keepD hd _) (.cons (.keepD hd _) (.cons (.keepD hd _) (.cons hl (.cons ha (.keepD hd _))))))
theorem Seen.as0D (hd : ∀ b, K b = none → T b = none) : Seen K .nilSlice T (dAl []) := fun w _ x hx => Rel.lasts (lastsD hd w) _ _ (DLe.nil w K x hx)
theorem Seen.exs0D (hd : ∀ b, K b = none → T b = none) : Seen K .nilSlice T (dXs []) := fun w _ x hx => Rel.lasts (lastsD hd w) _ _ (DLe.nil w K x hx)
theorem hd_at {Hb : DHeap} {r4 k' : Nat} {o z : DObj} {l : List Tok} {r : Nat} (hat : RAt r l k' Hb K) (h4 : K r4 = some o) : ∀ b, K b = none → (upd (upd Hb r (some (rdO l k'))) r4 (some z)) b = none := fun b hb => by
 simp only [upd];split
 ·rename_i e1; rw [e1, h4] at hb; cases hb
 ·have := Sub.lo hat hb;simpa only [upd] using this
theorem GhostS.cell {env : Nat → DVal} {r4 : Nat} {cs cs' : List DVal} {e : TypeId} (h4 : K r4 = some (.cells cs e)) (hB : Sub B K) (hs : Seens K cs (upd B r4 (some (.cells cs' e))) cs') : GhostS G ⟨env, K⟩ ⟨env, upd B r4 (some (.cells cs' e))⟩ := fun w hH hG => by
 have hd : ∀ b, K b = none → (upd B r4 (some (.cells cs' e))) b = none := fun b hb => by
  simp only [upd];split
  ·rename_i e1; rw [e1, h4] at hb; cases hb
  ·exact hB.lo hb
 refine ⟨fun b o hb => ?_, fun b hb h => hb (hd b h), hG.lasts (lastsD hd w), fun i x hx => Rel.lasts (lastsD hd w) _ _ hx⟩;simp only [upd] at hb;split at hb
 ·rename_i e1
  subst e1;cases hb;obtain ⟨xs, c, fz, g1, g2, g3, g5⟩ := hH _ _ h4;exact ⟨xs, c, fz, g1, g2, hs w hH xs g3, g5⟩
 ·exact (hH b o (hB b o hb)).lasts (lastsD hd w)
theorem RAt.up {r k k2 : Nat} {l : List Tok} {H Hb K : DHeap} (h : RAt r l k Hb K) (hab : RAt r l k2 H Hb) : RAt r l k H K := fun b o hb => by
 simp only [upd] at hb;by_cases c : b = r
 ·rw [if_pos c] at hb;exact h b o (by simp only [upd]; rw [if_pos c]; exact hb)
 ·rw [if_neg c] at hb;exact h b o (by simp only [upd]; rw [if_neg c]; exact hab b o (by simp only [upd]; rw [if_neg c]; exact hb))
theorem seens_name {Hb : DHeap} {r4 q k' : Nat} {x : Ex} {e : TypeId} {o : DObj} {z : DObj} {l : List Tok} {r : Nat} {va : DVal} {a : List As} {kd li : Int} {s : List UInt8} (hat : RAt r l k' Hb K) (h4 : K r4 = some o) (hq : Hb q = none) (hqr : q ≠ r) (hq4 : q ≠ r4) (hK : K q = some (.cells (dEx x) e)) (ha : ∀ T, (∀ b, K b = none → T b = none) → Seen K va T (dAl a)) :
  Seens K [.int .u8 kd, .int .u8 0, .int .i64 0, .str s, .oslice 9 q 0 1 1, va, .int .i64 li, .int .i64 0, .int .i64 0] (upd (upd Hb r (some (rdO l k'))) r4 (some z)) (dEx (.mk kd 0 0 s [x] a li 0 0)) := by
 have hd : ∀ b, K b = none → (upd (upd Hb r (some (rdO l k'))) r4 (some z)) b = none := fun b hb => by
  simp only [upd];split
  ·rename_i e1; rw [e1, h4] at hb; cases hb
  ·have := Sub.lo hat hb;simpa only [upd] using this
 refine Seens.exD hd ?_ (ha _ hd);show Seen K _ _ (.vslice ([x].flatMap dEx) 1);rw [List.flatMap_singleton];exact Seen.cellsD (by simp only [upd]; rw [if_neg hq4, if_neg hqr]; exact hq) hK (by rw [dEx_len]) (Seens.keepD hd _)
theorem seens_qual {Hb B : DHeap} {r4 k' : Nat} {x y : Ex} {e : TypeId} {o : DObj} {z : DObj} {l : List Tok} {r : Nat} {v : DVal} {kd li : Int} {s : List UInt8} (hat : RAt r l k' Hb K) (h4 : K r4 = some o) (hB : RAt r l k' Hb B) (hB4 : B r4 ≠ none) (hv : OwnJ B e 9 2 ([x, y].flatMap dEx) v K) :
  Seens K [.int .u8 kd, .int .u8 0, .int .i64 0, .str s, v, .nilSlice, .int .i64 li, .int .i64 0, .int .i64 0] (upd (upd Hb r (some (rdO l k'))) r4 (some z)) (dEx (.mk kd 0 0 s [x, y] [] li 0 0)) := by
 have key : ∀ K' : DHeap, RAt r l k' Hb K' → K' r4 ≠ none → ∀ b, K' b = none → (upd (upd Hb r (some (rdO l k'))) r4 (some z)) b = none := fun K' ht h4 b hb => by
  simp only [upd];split
  ·rename_i e1; rw [e1] at hb; exact absurd hb h4
  ·have := Sub.lo ht hb;simpa only [upd] using this
 have hd := key K hat (by rw [h4]; simp);exact Seens.exD hd (Seen.ownD hd (key B hB hB4) hv) (.as0D hd)
end
section
variable {G : Nat → DVal} {H0 H H' : DHeap} {r k : Nat} {l : List Tok}
set_option maxHeartbeats 4000000 in
theorem name_step (hG : GX G) (hl : l.length ≤ 800000) (n : Nat) (hga : ∀ m ≤ n, RdC Tryz.prog G l 157 r fun k => ((P l m).arg k).mp dA) (hgp : ∀ m ≤ n, RdC Tryz.prog G l 127 r fun k => ((P l m).paren k).mp dE) : RdC Tryz.prog G l 69 r fun k => ((P l (n + 1)).name k).mp dE := by
 intro H k hr hk hn;obtain ⟨t, ht⟩ : ∃ t, t = tk l k := ⟨_, rfl⟩;have e : (P l (n + 1)).name k = takeN l k fun s k1 => (P l n).nameL (tk l k).line (.mk 3 0 0 s [] [] (tk l k).line 0 0) k1 := rfl;dsimp only at hn ⊢
 rw [e, takeN, ← ht] at hn ⊢
 refine dcalls_intro Tryz.func69 Tryz.call69 rfl (by kernel_rfl) ?_;simp (disch := omega) only [go_sem];intro r2 hr2; dsimp only at hr2;obtain ⟨Ha, hHa⟩ : ∃ K, K = upd H r2 (some (.cells [.int .u8 0, .int .u8 0, .int .i64 0, .str [], .nilSlice, .nilSlice, .int .i64 0, .int .i64 0, .int .i64 0] 27)) := ⟨_, rfl⟩;rw [← hHa];have gr2 : Ha r2 = some (.cells [.int .u8 0, .int .u8 0, .int .i64 0, .str [], .nilSlice, .nilSlice, .int .i64 0, .int .i64 0, .int .i64 0] 27) := by rw [hHa]; exact upd_same _ _ _
 have n2 : r ≠ r2 := none_ne hr2 hr;have q2 := n2.symm;have ha : RAt r l k H Ha := by rw [hHa]; exact (RAt.refl hr).new hr2 _
 simp (disch := omega) only [go_sem];refine (take_spec G Ha 1 ha.get (by omega) (by omega)).mono ?_;intro e1 H1 hq;rw [← ht] at hq;by_cases c : t.kind = 1
 ·rw [if_pos c] at hn hq ⊢
  obtain ⟨rfl, hH1⟩ := hq;have hk1 : k + 1 ≤ l.length := tk_lt (by rw [← ht, c]; decide);have ha1 : RAt r l (k + 1) H H1 := by rw [hH1]; exact ha.set _
  have g12 : H1 r2 = some (.cells [.int .u8 0, .int .u8 0, .int .i64 0, .str [], .nilSlice, .nilSlice, .int .i64 0, .int .i64 0, .int .i64 0] 27) := by rw [hH1]; exact keepU gr2 q2
  simp (disch := omega) only [go_sem, dTok];intro r3 hr3; dsimp only at hr3;have n23 : r2 ≠ r3 := none_ne hr3 g12;have n3 : r ≠ r3 := none_ne hr3 ha1.get;have q3 := n3.symm;have h30 : H r3 = none := ha1.lo hr3;simp (disch := omega) only [go_sem];obtain ⟨Hb, hHb⟩ : ∃ K, K = upd H1 r3 (some (.cells [.int .u8 t.kind, dI t.line, .str t.text, dI t.n] 52)) := ⟨_, rfl⟩;rw [← hHb];have gb3 : Hb r3 = some (.cells [.int .u8 t.kind, dI t.line, .str t.text, dI t.n] 52) := by rw [hHb]; exact upd_same _ _ _
  have gb2 : Hb r2 = some (.cells [.int .u8 0, .int .u8 0, .int .i64 0, .str [], .nilSlice, .nilSlice, .int .i64 0, .int .i64 0, .int .i64 0] 27) := by rw [hHb]; exact keepU g12 n23
  have hab : RAt r l (k + 1) H Hb := by rw [hHb]; exact ha1.new hr3 _
  intro r4 hr4; dsimp only at hr4;have n24 : r2 ≠ r4 := none_ne hr4 gb2;have n34 : r3 ≠ r4 := none_ne hr4 gb3;have n4 : r ≠ r4 := none_ne hr4 hab.get;have q4 := n4.symm;simp (disch := omega) only [go_sem, dEx_mk, List.flatMap_nil, List.length_nil];obtain ⟨x0, hx0⟩ : ∃ x0, x0 = Ex.mk 3 0 0 t.text [] [] t.line 0 0 := ⟨_, rfl⟩;have hdx0 : dEx x0 = [.int .u8 3, .int .u8 0, .int .i64 0, .str t.text, .vslice [] 0, .vslice [] 0, .int .i64 t.line, .int .i64 0, .int .i64 0] := by rw [hx0, dEx_mk]; rfl
  rw [← hx0] at hn ⊢
  obtain ⟨n', rfl⟩ : ∃ n', n = n' + 1 := by
   cases n with
   | zero => exact absurd rfl hn
   | succ n' => exact ⟨n', rfl⟩
  obtain ⟨res, hres⟩ : ∃ res, res = (P l (n' + 1)).nameL t.line x0 (k + 1) := ⟨_, rfl⟩;rw [← hres] at hn ⊢
  have hT : ∀ x k' b o, b ≠ r4 → upd Hb r (some (rdO l k')) b = some o → upd (upd Hb r (some (rdO l k'))) r4 (some (.cells (dEx x) 27)) b = some o := fun x k' b o hb h => by rw [upd_ne _ _ _ _ hb]; exact h
  obtain ⟨I, hI⟩ : ∃ I : Nat × Ex × Nat → (Nat → DVal) → DHeap → Prop, ∀ s env heap, I s env heap ↔ (env 0 = .optr r 0 ∧ env 2 = .optr r2 0 ∧ env 3 = .optr r3 0 ∧ env 4 = .optr r4 0 ∧ s.2.2 ≤ l.length ∧ s.1 ≤ n' ∧ res = (P l (s.1 + 1)).nameL t.line s.2.1 s.2.2 ∧ heap = upd (upd Hb r (some (rdO l s.2.2))) r4 (some (.cells (dEx s.2.1) 27))) := ⟨_, fun _ _ _ => Iff.rfl⟩;have hat0 : RAt r l (k + 1) Hb (upd Hb r4 (some (.cells [.int .u8 3, .int .u8 0, .int .i64 0, .str t.text, .nilSlice, .nilSlice, .int .i64 t.line, .int .i64 0, .int .i64 0] 27))) := (RAt.refl hab.get).own hr4 q4 _;refine DLoop.runG I (fun s => s.1) (n', x0, k + 1) ⟨_, upd (upd Hb r (some (rdO l (k + 1)))) r4 (some (.cells (dEx x0) 27))⟩ (GhostS.cell (upd_same _ _ _) hat0 ?_) ((hI _ _ _).2 ?_) ?_
  ·rw [hx0];exact Seens.exD (hd_at hat0 (upd_same _ _ _)) (.exs0D (hd_at hat0 (upd_same _ _ _))) (.as0D (hd_at hat0 (upd_same _ _ _)))
  ·simp (disch := omega) only [go_sem]
  ·rintro ⟨m, x, k1⟩ env heap hi';obtain ⟨e0, e2, e3, e4, hk1', hm, hr', hh⟩ := (hI _ _ _).1 hi';dsimp only at hk1' hm hr' hh;have eP : (P l (m + 1)).nameL t.line x k1 = if isW l k1 [wDot, wAll] then (P l m).nameL t.line (.mk 5 0 0 [] [x] [] t.line 0 0) (k1 + 2) else if isW l k1 [wDot] then takeN l (k1 + 1) fun s k => (P l m).nameL t.line (.mk 4 0 0 s [x] [] t.line 0 0) k
     else if isW l k1 [wOpen] then ((P l m).arg (k1 + 1)).then fun a k => ((P l m).argsL [a] k).then fun xs k => must l wShut k fun k => (P l m).nameL t.line (.mk 7 0 0 [] [x] xs t.line 0 0) k
     else if isW l k1 [wTick, wOpen] then ((P l m).paren (k1 + 1)).then fun y k => (P l m).nameL t.line (.mk 8 0 0 [] [x, y] [] t.line 0 0) k
     else if isW l k1 [wTick] then takeN l (k1 + 1) fun s k => (P l m).nameL t.line (.mk 6 0 0 s [x] [] t.line 0 0) k else .ok x k1 := rfl
   rw [eP] at hr';have hat : RAt r l k1 Hb heap := by rw [hh]; exact ((RAt.refl hab.get).set k1).own hr4 q4 _
   have h4 : heap r4 = some (.cells (dEx x) 27) := by rw [hh]; exact upd_same _ _ _
   have h3 : heap r3 = some (.cells [.int .u8 t.kind, dI t.line, .str t.text, dI t.n] 52) := hat _ _ (by rw [upd_ne _ _ _ _ q3]; exact gb3);have hlx := dEx_len x;simp (disch := omega) only [go_sem, e0, e2, e3, e4, h4, h3];rw [cells1Ex hlx];simp (disch := omega) only [go_sem, e0, e2, e3, e4, h4, h3];intro q hq0; dsimp only at hq0;have p3 : r3 ≠ q := none_ne hq0 h3;have p4 : r4 ≠ q := none_ne hq0 h4;have pr : r ≠ q := none_ne hq0 hat.get;have hbq : Hb q = none := hat.lo hq0;simp (disch := omega) only [go_sem, e0, e2, e3, e4, h4, h3, p3, p4];intro r5 hr5; dsimp only at hr5;obtain ⟨m5, m5', hr5'⟩ := upd_eq_none.1 hr5;have p54 : r4 ≠ r5 := none_ne hr5' h4;have p5r : r ≠ r5 := none_ne hr5' hat.get;have hb5 : Hb r5 = none := hat.lo hr5';simp (disch := omega) only [go_sem, e0, e2, e3, e4, h4, h3, p3, p4];have m5q : q ≠ r5 := by first | exact m5 | exact m5'
   obtain ⟨K1, hK1⟩ : ∃ K, K = upd (upd heap q (some (.cells (dEx x) 27))) r5 (some (.cells [.int .u8 0, .int .u8 0, .int .i64 0, .str [], .oslice 9 q 0 1 1, .nilSlice, .int .i64 t.line, .int .i64 0, .int .i64 0] 27)) := ⟨_, rfl⟩;rw [← hK1];have ha1 : RAt r l k1 Hb K1 := by rw [hK1]; exact (hat.new hq0 _).new hr5 _
   have g15 : K1 r5 = some (.cells [.int .u8 0, .int .u8 0, .int .i64 0, .str [], .oslice 9 q 0 1 1, .nilSlice, .int .i64 t.line, .int .i64 0, .int .i64 0] 27) := by rw [hK1]; exact upd_same _ _ _
   have g1q : K1 q = some (.cells (dEx x) 27) := by rw [hK1]; exact keepU (upd_same _ _ _) m5q
   have g14 : K1 r4 = some (.cells (dEx x) 27) := by rw [hK1]; exact keepU (keepU h4 p4) p54
   have g12' : K1 r2 = some (.cells [.int .u8 0, .int .u8 0, .int .i64 0, .str [], .nilSlice, .nilSlice, .int .i64 0, .int .i64 0, .int .i64 0] 27) := ha1 _ _ (by rw [upd_ne _ _ _ _ q2]; exact gb2);intro w1 hw1; dsimp only at hw1;simp (disch := omega) only [go_sem];refine (may2 hG K1 w1 wDot wAll hw1 ha1.get (by omega) (by omega)).mono ?_;rintro _ H2 ⟨rfl, hH2⟩;by_cases b1 : isW l k1 [wDot, wAll] = true
   ·rw [if_pos b1] at hH2 hr';have hk2 := isW_lt b1 hk1';rw [show [wDot, wAll].length = 2 from rfl] at hk2;have haK : RAt r l (k1 + 2) Hb H2 := by rw [hH2]; exact ha1.set _
    have hH25 : H2 r5 = some (.cells [.int .u8 0, .int .u8 0, .int .i64 0, .str [], .oslice 9 q 0 1 1, .nilSlice, .int .i64 t.line, .int .i64 0, .int .i64 0] 27) := by rw [hH2]; exact keepU g15 p5r.symm
    have hH24 : H2 r4 = some (.cells (dEx x) 27) := by rw [hH2]; exact keepU g14 q4
    have hH2q : H2 q = some (.cells (dEx x) 27) := by rw [hH2]; exact keepU g1q pr.symm
    have hH22 : H2 r2 = some (.cells [.int .u8 0, .int .u8 0, .int .i64 0, .str [], .nilSlice, .nilSlice, .int .i64 0, .int .i64 0, .int .i64 0] 27) := by rw [hH2]; exact keepU g12' q2
    obtain ⟨m', rfl⟩ : ∃ m', m = m' + 1 := by
     cases m with
     | zero => rw [hr'] at hn; exact absurd rfl hn
     | succ m' => exact ⟨m', rfl⟩
    simp (disch := omega) only [go_sem, b1, e0, e2, e3, e4, hH25, hH24, p54];have hatf := fun z z' => (haK.own hb5 p5r.symm z).own hr4 q4 z';have hqf := fun z z' => keepU (y := z') (keepU (y := z) hH2q m5q) p4.symm;refine ⟨(m', .mk 5 0 0 [] [x] [] t.line 0 0, k1 + 2), _, GhostS.cell (upd_same _ _ _) (hatf _ _) (seens_name (a := []) (hatf _ _) (upd_same _ _ _) hbq pr.symm p4.symm (hqf _ _) (fun T hd => .as0D hd)), (hI _ _ _).2 ?_, by dsimp only; omega⟩;simp (disch := omega) only [go_sem, e0, e2, e3, e4]
   ·have b1' : isW l k1 [wDot, wAll] = false := by simpa using b1
    rw [if_neg b1, upd_get ha1.get] at hH2;rw [if_neg b1] at hr';rw [hH2];simp (disch := omega) only [go_sem, b1', e0, e2, e3, e4];intro w2 hw2; dsimp only at hw2;simp (disch := omega) only [go_sem];refine (may1 hG K1 w2 wDot hw2 ha1.get (by omega) (by omega)).mono ?_;rintro _ H3 ⟨rfl, hH3⟩;by_cases b2 : isW l k1 [wDot] = true
    ·rw [if_pos b2] at hH3 hr';have hk2 := isW_lt b2 hk1';rw [List.length_singleton] at hk2;have haK : RAt r l (k1 + 1) Hb H3 := by rw [hH3]; exact ha1.set _
     have hH35 : H3 r5 = some (.cells [.int .u8 0, .int .u8 0, .int .i64 0, .str [], .oslice 9 q 0 1 1, .nilSlice, .int .i64 t.line, .int .i64 0, .int .i64 0] 27) := by rw [hH3]; exact keepU g15 p5r.symm
     have hH34 : H3 r4 = some (.cells (dEx x) 27) := by rw [hH3]; exact keepU g14 q4
     have hH3q : H3 q = some (.cells (dEx x) 27) := by rw [hH3]; exact keepU g1q pr.symm
     have hH32 : H3 r2 = some (.cells [.int .u8 0, .int .u8 0, .int .i64 0, .str [], .nilSlice, .nilSlice, .int .i64 0, .int .i64 0, .int .i64 0] 27) := by rw [hH3]; exact keepU g12' q2
     simp (disch := omega) only [go_sem, b2, e0, e2, e3, e4];have hbr : ∃ t2, t2 = tk l (k1 + 1) := ⟨_, rfl⟩;obtain ⟨t2, ht2⟩ := hbr;unfold takeN at hr';refine (take_spec G H3 1 haK.get (by omega) (by omega)).mono ?_;intro e1 H9 hq9;rw [← ht2] at hq9 hr';by_cases c9 : t2.kind = 1
     ·rw [if_pos c9] at hq9 hr';obtain ⟨rfl, hH9⟩ := hq9;have hk9 : k1 + 2 ≤ l.length := tk_lt (by rw [← ht2, c9]; decide);have haL : RAt r l (k1 + 2) Hb H9 := by rw [hH9]; exact haK.set _
      have hH95 : H9 r5 = some (.cells [.int .u8 0, .int .u8 0, .int .i64 0, .str [], .oslice 9 q 0 1 1, .nilSlice, .int .i64 t.line, .int .i64 0, .int .i64 0] 27) := by rw [hH9]; exact keepU hH35 p5r.symm
      have hH94 : H9 r4 = some (.cells (dEx x) 27) := by rw [hH9]; exact keepU hH34 q4
      have hH9q : H9 q = some (.cells (dEx x) 27) := by rw [hH9]; exact keepU hH3q pr.symm
      obtain ⟨m', rfl⟩ : ∃ m', m = m' + 1 := by
       cases m with
       | zero => rw [hr'] at hn; exact absurd rfl hn
       | succ m' => exact ⟨m', rfl⟩
      simp (disch := omega) only [go_sem, dTok, e0, e2, e3, e4, hH95, hH94, p54];have hatf := fun z z' => (haL.own hb5 p5r.symm z).own hr4 q4 z';have hqf := fun z z' => keepU (y := z') (keepU (y := z) hH9q m5q) p4.symm;refine ⟨(m', .mk 4 0 0 t2.text [x] [] t.line 0 0, k1 + 2), _, GhostS.cell (upd_same _ _ _) (hatf _ _) (seens_name (a := []) (hatf _ _) (upd_same _ _ _) hbq pr.symm p4.symm (hqf _ _) (fun T hd => .as0D hd)), (hI _ _ _).2 ?_, by dsimp only; omega⟩;simp (disch := omega) only [go_sem, e0, e2, e3, e4]
     ·rw [if_neg c9] at hq9 hr';obtain ⟨rfl, hH9⟩ := hq9;simp (disch := omega) only [go_sem];rw [hr'];exact RAt.finP (by rw [hH9]; exact RAt.up (haK.set _) hab) ⟨rfl, rfl⟩
    ·have b2' : isW l k1 [wDot] = false := by simpa using b2
     rw [if_neg b2, upd_get ha1.get] at hH3;rw [if_neg b2] at hr';rw [hH3];simp (disch := omega) only [go_sem, b2', e0, e2, e3, e4];intro w3 hw3; dsimp only at hw3;simp (disch := omega) only [go_sem];refine (may1 hG K1 w3 wOpen hw3 ha1.get (by omega) (by omega)).mono ?_;rintro _ H4 ⟨rfl, hH4⟩;by_cases b3 : isW l k1 [wOpen] = true
     ·rw [if_pos b3] at hH4 hr';have hk2 := isW_lt b3 hk1';rw [List.length_singleton] at hk2;have haK : RAt r l (k1 + 1) Hb H4 := by rw [hH4]; exact ha1.set _
      have hH45 : H4 r5 = some (.cells [.int .u8 0, .int .u8 0, .int .i64 0, .str [], .oslice 9 q 0 1 1, .nilSlice, .int .i64 t.line, .int .i64 0, .int .i64 0] 27) := by rw [hH4]; exact keepU g15 p5r.symm
      have hH44 : H4 r4 = some (.cells (dEx x) 27) := by rw [hH4]; exact keepU g14 q4
      have hH4q : H4 q = some (.cells (dEx x) 27) := by rw [hH4]; exact keepU g1q pr.symm
      have hH42 : H4 r2 = some (.cells [.int .u8 0, .int .u8 0, .int .i64 0, .str [], .nilSlice, .nilSlice, .int .i64 0, .int .i64 0, .int .i64 0] 27) := by rw [hH4]; exact keepU g12' q2
      simp (disch := omega) only [go_sem, b3, e0, e2, e3, e4];have hth : ∀ (a : Res As) (f : As → Nat → Res (List As)) (g : List As → Nat → Res Ex), (a.then fun x k => (f x k).then g) = (a.then f).then g := fun a f g => by cases a <;> rfl
      rw [hth] at hr';have hargs := args_spec hG hl m (fun i hi => hga i (by omega)) H4 (k1 + 1) haK.get hk2;dsimp only at hargs;cases hcc : (((P l m).arg (k1 + 1)).then fun a k => (P l m).argsL [a] k) with
      | bot => rw [hcc, then_bot] at hr'; rw [hr'] at hn; exact absurd rfl hn
      | fail k3 =>
       rw [hcc] at hargs;rw [hcc, then_fail] at hr';refine (hargs (mp_ne (by simp))).mono ?_;rintro e H7 ⟨rfl, hH7⟩;simp (disch := omega) only [go_sem];rw [hr'];exact RAt.finP (by rw [hH7]; exact RAt.up (haK.set _) hab) ⟨rfl, rfl⟩
      | ok xs k3 =>
       rw [hcc] at hargs;rw [hcc, then_ok] at hr';have hk3 : k3 ≤ l.length := by
        have := adv_then ((P_adv (l := l) m).arg (k1 + 1) hk2) (fun a j h1 h2 => adv_less ((P_adv (l := l) m).argsL [a] j h2) h1);rw [hcc] at this;exact this.2
       refine (hargs (mp_ne (by simp))).mono ?_;rintro e H7 ⟨rfl, hH7⟩;have ha7 : RAt r l k3 Hb H7 := by rw [hH7]; exact haK.set _
       have hH75 : H7 r5 = some (.cells [.int .u8 0, .int .u8 0, .int .i64 0, .str [], .oslice 9 q 0 1 1, .nilSlice, .int .i64 t.line, .int .i64 0, .int .i64 0] 27) := by rw [hH7]; exact keepU hH45 p5r.symm
       have hH74 : H7 r4 = some (.cells (dEx x) 27) := by rw [hH7]; exact keepU hH44 q4
       have hH7q : H7 q = some (.cells (dEx x) 27) := by rw [hH7]; exact keepU hH4q pr.symm
       simp (disch := omega) only [go_sem, dAl, e0, e2, e3, e4, hH75];obtain ⟨H8, hH8⟩ : ∃ K, K = upd H7 r5 (some (.cells [.int .u8 7, .int .u8 0, .int .i64 0, .str [], .oslice 9 q 0 1 1, .vslice (xs.flatMap dAs) xs.length, .int .i64 t.line, .int .i64 0, .int .i64 0] 27)) := ⟨_, rfl⟩;rw [← hH8];have ha8 : RAt r l k3 Hb H8 := by rw [hH8]; exact ha7.own hb5 p5r.symm _
       have g85 : H8 r5 = some (.cells [.int .u8 7, .int .u8 0, .int .i64 0, .str [], .oslice 9 q 0 1 1, .vslice (xs.flatMap dAs) xs.length, .int .i64 t.line, .int .i64 0, .int .i64 0] 27) := by rw [hH8]; exact upd_same _ _ _
       have g84 : H8 r4 = some (.cells (dEx x) 27) := by rw [hH8]; exact keepU hH74 p54
       have g8q : H8 q = some (.cells (dEx x) 27) := by rw [hH8]; exact keepU hH7q m5q
       refine (must_spec hG H8 wShut ha8.get (by omega) (by omega)).mono ?_;intro e1 H9 hq9;unfold must at hq9 hr';by_cases c9 : isW l k3 [wShut] = true
       ·rw [if_pos c9] at hq9 hr';obtain ⟨rfl, hH9⟩ := hq9;have hk9 := isW_lt c9 hk3;rw [List.length_singleton] at hk9;have haL : RAt r l (k3 + 1) Hb H9 := by rw [hH9]; exact ha8.set _
        have g95 : H9 r5 = some (.cells [.int .u8 7, .int .u8 0, .int .i64 0, .str [], .oslice 9 q 0 1 1, .vslice (xs.flatMap dAs) xs.length, .int .i64 t.line, .int .i64 0, .int .i64 0] 27) := by rw [hH9]; exact keepU g85 p5r.symm
        have g94 : H9 r4 = some (.cells (dEx x) 27) := by rw [hH9]; exact keepU g84 q4
        have g9q : H9 q = some (.cells (dEx x) 27) := by rw [hH9]; exact keepU g8q pr.symm
        dsimp only at hr';obtain ⟨m', rfl⟩ : ∃ m', m = m' + 1 := by
         cases m with
         | zero => rw [hr'] at hn; exact absurd rfl hn
         | succ m' => exact ⟨m', rfl⟩
        simp (disch := omega) only [go_sem, e0, e2, e3, e4, g95, g94, p54];have hatf := fun z' => haL.own hr4 q4 z';have hqf := fun z' => keepU (y := z') g9q p4.symm;refine ⟨(m', .mk 7 0 0 [] [x] xs t.line 0 0, k3 + 1), _, GhostS.cell (upd_same _ _ _) (hatf _) (seens_name (a := xs) (hatf _) (upd_same _ _ _) hbq pr.symm p4.symm (hqf _) (fun T hd => Seen.keepD hd _)), (hI _ _ _).2 ?_, by dsimp only; omega⟩;simp (disch := omega) only [go_sem, e0, e2, e3, e4]
       ·rw [if_neg c9] at hq9 hr';obtain ⟨rfl, hH9⟩ := hq9;simp (disch := omega) only [go_sem];rw [hr'];exact RAt.finP (by rw [hH9]; exact RAt.up (ha8.set _) hab) ⟨rfl, rfl⟩
     ·have b3' : isW l k1 [wOpen] = false := by simpa using b3
      rw [if_neg b3, upd_get ha1.get] at hH4;rw [if_neg b3] at hr';rw [hH4];simp (disch := omega) only [go_sem, b3', e0, e2, e3, e4];intro w4 hw4; dsimp only at hw4;simp (disch := omega) only [go_sem];refine (is2 hG K1 w4 wTick wOpen hw4 ha1.get (by omega) (by omega)).mono ?_;rintro _ H5 ⟨rfl, hH5⟩;rw [hH5];by_cases b4 : isW l k1 [wTick, wOpen] = true
      ·rw [if_pos b4] at hr';have hk2 := isW_lt b4 hk1';rw [show [wTick, wOpen].length = 2 from rfl] at hk2;have gr := ha1.get;unfold rdO at gr;have hw1' : IntKind.i64.wrap ((k1 : Int) + 1) = ((k1 + 1 : Nat) : Int) := by rw [IntKind.wrap_i64]; omega
       simp (disch := omega) only [go_sem, b4, e0, e2, e3, e4, gr, hw1'];obtain ⟨H6, hH6⟩ : ∃ H6, H6 = upd K1 r (some (rdO l (k1 + 1))) := ⟨_, rfl⟩;have hH6' := hH6;unfold rdO at hH6';rw [← hH6'];have haK : RAt r l (k1 + 1) Hb H6 := by rw [hH6]; exact ha1.set _
       have hH65 : H6 r5 = some (.cells [.int .u8 0, .int .u8 0, .int .i64 0, .str [], .oslice 9 q 0 1 1, .nilSlice, .int .i64 t.line, .int .i64 0, .int .i64 0] 27) := by rw [hH6]; exact keepU g15 p5r.symm
       have hH64 : H6 r4 = some (.cells (dEx x) 27) := by rw [hH6]; exact keepU g14 q4
       have hH6q : H6 q = some (.cells (dEx x) 27) := by rw [hH6]; exact keepU g1q pr.symm
       have hH62 : H6 r2 = some (.cells [.int .u8 0, .int .u8 0, .int .i64 0, .str [], .nilSlice, .nilSlice, .int .i64 0, .int .i64 0, .int .i64 0] 27) := by rw [hH6]; exact keepU g12' q2
       refine dwp_draws (by kernel_rfl) (.take 0 (.take 1 (.take 2 (.take 6 (.go 3 [1] (.go 4 [1] (.go 5 [] (.go 7 [] (.take 8 (.go 9 [] .done)))))))))) (by kernel_rfl) ?_;simp (disch := omega) only [go_sem, e0, e2, e3, e4, hH65];have hpp := hgp m (by omega) H6 (k1 + 1) haK.get (by omega);have had := (P_adv (l := l) m).paren (k1 + 1) (by omega);dsimp only at hpp;cases hcc : (P l m).paren (k1 + 1) with
       | bot => rw [hcc, then_bot] at hr'; rw [hr'] at hn; exact absurd rfl hn
       | fail k3 =>
        rw [hcc] at hpp;rw [hcc, then_fail] at hr';refine (hpp (mp_ne (by simp))).mono ?_;rintro e H7 ⟨rfl, hH7⟩;simp (disch := omega) only [go_sem];rw [hr'];exact RAt.finP (by rw [hH7]; exact RAt.up (haK.set _) hab) ⟨rfl, rfl⟩
       | ok y k3 =>
        rw [hcc] at hpp had;rw [hcc, then_ok] at hr';dsimp only [Adv] at had;refine (hpp (mp_ne (by simp))).mono ?_;rintro e H7 ⟨rfl, hH7⟩;have ha7 : RAt r l k3 Hb H7 := by rw [hH7]; exact haK.set _
        have hH75 : H7 r5 = some (.cells [.int .u8 0, .int .u8 0, .int .i64 0, .str [], .oslice 9 q 0 1 1, .nilSlice, .int .i64 t.line, .int .i64 0, .int .i64 0] 27) := by rw [hH7]; exact keepU hH65 p5r.symm
        have hH74 : H7 r4 = some (.cells (dEx x) 27) := by rw [hH7]; exact keepU hH64 q4
        have hH7q : H7 q = some (.cells (dEx x) 27) := by rw [hH7]; exact keepU hH6q pr.symm
        have hly := dEx_len y;simp (disch := omega) only [go_sem, dE, e0, e2, e3, e4, hH65, hH75];rw [cells1Ex hly];simp (disch := omega) only [go_sem, e0, e2, e3, e4, hH65, hH75];intro r8 hr8; dsimp only at hr8;have p8 : q ≠ r8 := none_ne hr8 hH7q;have p85 : r5 ≠ r8 := none_ne hr8 hH75;simp (disch := omega) only [go_sem, e0, e2, e3, e4, hH65, hH75, p85];rw [if_neg p8, hH7q];obtain ⟨Bq, hBq⟩ : ∃ K, K = upd H7 q none := ⟨_, rfl⟩;have hsB : Sub Bq H7 := by
         rw [hBq];intro b o hb;simp only [upd] at hb;split at hb
         ·cases hb
         ·exact hb
        have haB : RAt r l k3 Hb Bq := by rw [hBq]; exact ha7.own hbq pr.symm none
        have hB5 : Bq r5 = some (.cells [.int .u8 0, .int .u8 0, .int .i64 0, .str [], .oslice 9 q 0 1 1, .nilSlice, .int .i64 t.line, .int .i64 0, .int .i64 0] 27) := by rw [hBq]; exact keepU hH75 m5q.symm
        have hB4 : Bq r4 = some (.cells (dEx x) 27) := by rw [hBq]; exact keepU hH74 p4
        have hv0 : OwnJ Bq 27 9 1 (dEx x) (.oslice 9 q 0 1 1) H7 := .inr ⟨q, by rw [hBq]; exact upd_same _ _ _, by rw [hlx], rfl, hH7q, hsB⟩;refine OwnJ.appendO (m := 1) (hv0.new hr8 _) hly (by omega) fun v2 H10 hv2 => ?_;have g105 := hv2.keep hB5;have g104 := hv2.keep hB4;obtain ⟨j1, j2⟩ := hv2.cell1;obtain ⟨m', rfl⟩ : ∃ m', m = m' + 1 := by
         cases m with
         | zero => rw [hr'] at hn; exact absurd rfl hn
         | succ m' => exact ⟨m', rfl⟩
        simp (disch := omega) only [go_sem, e0, e2, e3, e4, g105, g104, p54, j1, j2];have hv3 := fun z z' => (hv2.at hB5 (some z)).at (r := r4) (by rw [upd_ne _ _ _ _ p54]; exact hB4) (some z');have haf := fun z z' => (haB.own hb5 p5r.symm (some z)).own hr4 q4 (some z');refine ⟨(m', .mk 8 0 0 [] [x, y] [] t.line 0 0, k3), _, GhostS.cell (upd_same _ _ _) (Sub.trans (haf _ _) (hv3 _ _).sub) (seens_qual (Sub.trans (haf _ _) (hv3 _ _).sub) (upd_same _ _ _) (haf _ _) (by rw [upd_same]; simp) (by rw [show [x, y].flatMap dEx = dEx x ++ dEx y by simp]; exact hv3 _ _)), (hI _ _ _).2 ?_, by dsimp only; omega⟩;simp (disch := omega) only [go_sem, e0, e2, e3, e4]
      ·have b4' : isW l k1 [wTick, wOpen] = false := by simpa using b4
       rw [if_neg b4] at hr';simp (disch := omega) only [go_sem, b4', e0, e2, e3, e4];intro w5 hw5; dsimp only at hw5;simp (disch := omega) only [go_sem];refine (may1 hG K1 w5 wTick hw5 ha1.get (by omega) (by omega)).mono ?_;rintro _ H6 ⟨rfl, hH6⟩;by_cases b5 : isW l k1 [wTick] = true
       ·rw [if_pos b5] at hH6 hr';have hk2 := isW_lt b5 hk1';rw [List.length_singleton] at hk2;have haK : RAt r l (k1 + 1) Hb H6 := by rw [hH6]; exact ha1.set _
        have hH65 : H6 r5 = some (.cells [.int .u8 0, .int .u8 0, .int .i64 0, .str [], .oslice 9 q 0 1 1, .nilSlice, .int .i64 t.line, .int .i64 0, .int .i64 0] 27) := by rw [hH6]; exact keepU g15 p5r.symm
        have hH64 : H6 r4 = some (.cells (dEx x) 27) := by rw [hH6]; exact keepU g14 q4
        have hH6q : H6 q = some (.cells (dEx x) 27) := by rw [hH6]; exact keepU g1q pr.symm
        have hH62 : H6 r2 = some (.cells [.int .u8 0, .int .u8 0, .int .i64 0, .str [], .nilSlice, .nilSlice, .int .i64 0, .int .i64 0, .int .i64 0] 27) := by rw [hH6]; exact keepU g12' q2
        simp (disch := omega) only [go_sem, b5, e0, e2, e3, e4];have hbr : ∃ t2, t2 = tk l (k1 + 1) := ⟨_, rfl⟩;obtain ⟨t2, ht2⟩ := hbr;unfold takeN at hr';refine (take_spec G H6 1 haK.get (by omega) (by omega)).mono ?_;intro e1 H9 hq9;rw [← ht2] at hq9 hr';by_cases c9 : t2.kind = 1
        ·rw [if_pos c9] at hq9 hr';obtain ⟨rfl, hH9⟩ := hq9;have hk9 : k1 + 2 ≤ l.length := tk_lt (by rw [← ht2, c9]; decide);have haL : RAt r l (k1 + 2) Hb H9 := by rw [hH9]; exact haK.set _
         have hH95 : H9 r5 = some (.cells [.int .u8 0, .int .u8 0, .int .i64 0, .str [], .oslice 9 q 0 1 1, .nilSlice, .int .i64 t.line, .int .i64 0, .int .i64 0] 27) := by rw [hH9]; exact keepU hH65 p5r.symm
         have hH94 : H9 r4 = some (.cells (dEx x) 27) := by rw [hH9]; exact keepU hH64 q4
         have hH9q : H9 q = some (.cells (dEx x) 27) := by rw [hH9]; exact keepU hH6q pr.symm
         obtain ⟨m', rfl⟩ : ∃ m', m = m' + 1 := by
          cases m with
          | zero => rw [hr'] at hn; exact absurd rfl hn
          | succ m' => exact ⟨m', rfl⟩
         simp (disch := omega) only [go_sem, dTok, e0, e2, e3, e4, hH95, hH94, p54];have hatf := fun z z' => (haL.own hb5 p5r.symm z).own hr4 q4 z';have hqf := fun z z' => keepU (y := z') (keepU (y := z) hH9q m5q) p4.symm;refine ⟨(m', .mk 6 0 0 t2.text [x] [] t.line 0 0, k1 + 2), _, GhostS.cell (upd_same _ _ _) (hatf _ _) (seens_name (a := []) (hatf _ _) (upd_same _ _ _) hbq pr.symm p4.symm (hqf _ _) (fun T hd => .as0D hd)), (hI _ _ _).2 ?_, by dsimp only; omega⟩;simp (disch := omega) only [go_sem, e0, e2, e3, e4]
        ·rw [if_neg c9] at hq9 hr';obtain ⟨rfl, hH9⟩ := hq9;simp (disch := omega) only [go_sem];rw [hr'];exact RAt.finP (by rw [hH9]; exact RAt.up (haK.set _) hab) ⟨rfl, rfl⟩
       ·have b5' : isW l k1 [wTick] = false := by simpa using b5
        rw [if_neg b5, upd_get ha1.get] at hH6;rw [if_neg b5] at hr';rw [hH6];have hox := dEx_one x;simp (disch := omega) only [go_sem, b5', e0, e2, e3, e4, g14, g12', hlx, hox];rw [hr'];exact RAt.fin ((RAt.up ha1 hab).own hr2 q2 _) ⟨rfl, rfl⟩
 ·rw [if_neg c] at hn hq ⊢
  obtain ⟨rfl, hH1⟩ := hq;simp (disch := omega) only [go_sem];exact RAt.finP (by rw [hH1]; exact ha.set k) ⟨rfl, rfl⟩
end
end Go.Dl

-- Chapter 3: the package's reader: all its functions together.
namespace Go.Dl
open Go Go.Proofs
set_option maxRecDepth 100000
section
variable {G : Nat → DVal} {r : Nat} {l : List Tok}
structure RdAll (G : Nat → DVal) (l : List Tok) (r : Nat) (m : Nat) : Prop where
 expr : RdC Tryz.prog G l 62 r fun k => ((P l m).expr k).mp dE
 rest : ∀ x, RdC1 Tryz.prog G l 118 r (.agg (dEx x)) fun k => ((P l m).rest x k).mp dE
 relation : ∀ x, RdC1 Tryz.prog G l 64 r (.agg (dEx x)) fun k => ((P l m).relation x k).mp dE
 simple : RdC Tryz.prog G l 65 r fun k => ((P l m).simple k).mp dE
 term : RdC Tryz.prog G l 66 r fun k => ((P l m).term k).mp dE
 factor : RdC Tryz.prog G l 67 r fun k => ((P l m).factor k).mp dE
 primary : RdC Tryz.prog G l 68 r fun k => ((P l m).primary k).mp dE
 paren : RdC Tryz.prog G l 127 r fun k => ((P l m).paren k).mp dE
 assoc : RdC Tryz.prog G l 177 r fun k => ((P l m).assoc k).mp dA
 choice : RdC Tryz.prog G l 161 r fun k => ((P l m).choice k).mp dC
 arg : RdC Tryz.prog G l 157 r fun k => ((P l m).arg k).mp dA
 name : RdC Tryz.prog G l 69 r fun k => ((P l m).name k).mp dE
theorem rd_all (hG : GX G) (hl : l.length ≤ 800000) : ∀ n m, m ≤ n → RdAll G l r m := by
 intro n
 induction n with
 | zero =>
  intro m hm;have : m = 0 := by omega
  subst this;constructor <;> intros <;> intro H k _ _ hn <;> exact absurd rfl hn
 | succ n ih =>
  intro m hm;rcases Nat.lt_or_ge m (n + 1) with h | h
  ·exact ih m (by omega)
  ·have : m = n + 1 := by omega
   subst this;have h0 := ih n (Nat.le_refl _);exact ⟨expr_step hl _ (P_adv n) h0.simple h0.rest, rest_step hG hl n (fun m hm => (ih m hm).simple) (fun m hm => (ih m hm).relation), relation_step hG hl _ (P_adv n) h0.simple,
    simple_step hG hl n (fun m hm => (ih m hm).term), term_step hG hl n (fun m hm => (ih m hm).factor), factor_step hG hl _ (P_adv n) h0.primary, primary_step hG hl _ h0.paren h0.name,
    paren_step hG hl n h0.expr (fun m hm => (ih m hm).assoc), rdAssoc_step hG hl n (fun m hm => (ih m hm).choice) h0.expr, choice_step hG hl _ (P_adv n) h0.simple h0.rest, argument_step hG hl _ h0.expr,
    name_step hG hl n (fun m hm => (ih m hm).arg) (fun m hm => (ih m hm).paren)⟩
theorem rd_at (hG : GX G) (hl : l.length ≤ 800000) (m : Nat) : RdAll G l r m := rd_all hG hl m m (Nat.le_refl _)
end
end Go.Dl

-- Chapter 3: the package's read: what a panic of reading told becomes the error.
namespace Go.Dl
open Go Go.Proofs
set_option maxRecDepth 100000
section
variable {G : Nat → DVal} {l : List Tok}
def readE : Res Ex → DVal
 | .ok x k => .tuple [dE x, dI k, dI 0]
 | .fail k => .tuple [dE ex0, dI k, dI 30]
 | .bot => .nilPtr
set_option maxHeartbeats 4000000 in
theorem readE_spec (hG : GX G) (H : DHeap) (hl : l.length ≤ 800000) (g : FuncId) (res : Res Ex) (hn : res ≠ .bot) (hf : ∀ r H, H r = some (rdO l 0) → DCalls Tryz.prog G g [.optr r 0] H (RdR r l H (res.mp dE))) :
  DCalls Tryz.prog G 70 [dToks l, .func (.func g) [] []] H (DRet (readE res) H) := by
 refine dcalls_late Tryz.func70 Tryz.func130 Tryz.call70 Tryz.call130 rfl rfl (by kernel_rfl) (by kernel_rfl) rfl ?_;simp (disch := omega) only [go_sem];intro r4 hr4; dsimp only at hr4;simp (disch := omega) only [go_sem];intro r5 hr5; dsimp only at hr5;obtain ⟨m45, m54, hr5'⟩ := upd_eq_none.1 hr5;simp (disch := omega) only [go_sem];intro r6 hr6; dsimp only at hr6;have a5 : upd (upd H r4 (some (.cells [.int .u8 0, .int .u8 0, .int .i64 0, .str [], .nilSlice, .nilSlice, .int .i64 0, .int .i64 0, .int .i64 0] 27))) r5 (some (.cells [dI 0] 3)) r5 = some (.cells [dI 0] 3) := upd_same _ _ _;have a4 : upd (upd H r4 (some (.cells [.int .u8 0, .int .u8 0, .int .i64 0, .str [], .nilSlice, .nilSlice, .int .i64 0, .int .i64 0, .int .i64 0] 27))) r5 (some (.cells [dI 0] 3)) r4 = some (.cells [.int .u8 0, .int .u8 0, .int .i64 0, .str [], .nilSlice, .nilSlice, .int .i64 0, .int .i64 0, .int .i64 0] 27) := keepU (upd_same _ _ _) (none_ne hr5 (upd_same _ _ _));have n56 : r5 ≠ r6 := none_ne hr6 a5;have n46 : r4 ≠ r6 := none_ne hr6 a4;have n45 : r4 ≠ r5 := none_ne hr5 (upd_same _ _ _);have hdc : (dToks l).cells = [dToks l] := rfl;simp (disch := omega) only [go_sem, hdc, List.length_cons, List.length_nil, List.drop_succ_cons, List.drop_zero, List.cons_append, List.nil_append];intro r7 hr7; dsimp only at hr7;have n47 : r4 ≠ r7 := none_ne hr7 (keepU a4 n46);have n57 : r5 ≠ r7 := none_ne hr7 (keepU a5 n56);have n67 : r6 ≠ r7 := none_ne hr7 (upd_same _ _ _);have hr6' : H r6 = none := ((((Sub.refl H).new hr4 _).new hr5 _).lo hr6);have hr7' : H r7 = none := (((((Sub.refl H).new hr4 _).new hr5 _).new hr6 _).lo hr7);have n74 := n47.symm;have n75 := n57.symm;have n76 := n67.symm;have n64 := n46.symm;have n65 := n56.symm;simp (disch := omega) only [go_sem];refine (hf r7 _ (upd_same _ _ _)).mono ?_;intro e H5 hq;have g4 : ∀ z, upd (upd (upd (upd (upd H r4 (some (.cells [.int .u8 0, .int .u8 0, .int .i64 0, .str [], .nilSlice, .nilSlice, .int .i64 0, .int .i64 0, .int .i64 0] 27))) r5 (some (.cells [dI 0] 3))) r6 (some (.cells [dI 0] 29))) r7 (some (rdO l 0))) r7 z r4 = some (.cells [.int .u8 0, .int .u8 0, .int .i64 0, .str [], .nilSlice, .nilSlice, .int .i64 0, .int .i64 0, .int .i64 0] 27) := fun z => by
  rw [upd_ne _ _ _ _ n47, upd_ne _ _ _ _ n47, upd_ne _ _ _ _ n46]; exact a4
 cases hres : res with
 | bot => exact absurd hres hn
 | ok x k =>
  rw [hres] at hq;obtain ⟨rfl, hH5⟩ := hq;have hlx := dEx_len x;have hox := dEx_one x;have g54 : H5 r4 = some (.cells [.int .u8 0, .int .u8 0, .int .i64 0, .str [], .nilSlice, .nilSlice, .int .i64 0, .int .i64 0, .int .i64 0] 27) := by rw [hH5]; exact g4 _
  have g55 : H5 r5 = some (.cells [dI 0] 3) := by rw [hH5, upd_ne _ _ _ _ n57, upd_ne _ _ _ _ n57, upd_ne _ _ _ _ n56]; exact a5
  have g56 : H5 r6 = some (.cells [dI 0] 29) := by rw [hH5, upd_ne _ _ _ _ n67, upd_ne _ _ _ _ n67]; exact upd_same _ _ _
  have g57 : H5 r7 = some (.cells [dToks l, dI k] 139) := by rw [hH5]; exact upd_same _ _ _
  have hs5 : Sub H H5 := by rw [hH5]; exact ((((((Sub.refl H).new hr4 _).new hr5 _).new hr6 _).new hr7 _).up hr7' _)
  simp (disch := omega) only [go_sem, dE, g54, hlx, hox];refine dwp_draws (by kernel_rfl) (.take 0 (.take 1 (.take 2 (.take 3 (.take 4 (.go 5 [4] (.go 6 [] (.go 7 [] .done)))))))) (by kernel_rfl) ?_;simp (disch := omega) only [go_sem, g54, g55, g56, g57, n45, n46, n47, n56, n57, n67, m45, n74, n75, n76, n64, n65, hlx, hox];intro r8 hr8; dsimp only at hr8;obtain ⟨K, hK⟩ : ∃ K, K = upd (upd (upd H5 r4 (some (.cells (dEx x) 27))) r5 (some (.cells [dI k] 3))) r6 (some (.cells [dI 0] 29)) := ⟨_, rfl⟩;have hsK : Sub H K := by rw [hK]; exact ((hs5.up hr4 _).up hr5' _).up hr6' _
  have k4 : K r4 = some (.cells (dEx x) 27) := by rw [hK]; exact keepU (keepU (upd_same _ _ _) n45) n46
  have k5 : K r5 = some (.cells [dI k] 3) := by rw [hK]; exact keepU (upd_same _ _ _) n56
  have k6 : K r6 = some (.cells [dI 0] 29) := by rw [hK]; exact upd_same _ _ _
  rw [← hK] at hr8 ⊢
  have n48 : r4 ≠ r8 := none_ne hr8 k4;have n58 : r5 ≠ r8 := none_ne hr8 k5;have n68 : r6 ≠ r8 := none_ne hr8 k6;simp (disch := omega) only [go_sem, k4, k5, k6, n48, n58, n68, hlx, hox];exact DFin.sub (hsK.new hr8 _) (.refl ⟨rfl, rfl⟩)
 | fail k =>
  rw [hres] at hq;obtain ⟨rfl, hH5⟩ := hq;have g54 : H5 r4 = some (.cells [.int .u8 0, .int .u8 0, .int .i64 0, .str [], .nilSlice, .nilSlice, .int .i64 0, .int .i64 0, .int .i64 0] 27) := by rw [hH5]; exact g4 _
  have g55 : H5 r5 = some (.cells [dI 0] 3) := by rw [hH5, upd_ne _ _ _ _ n57, upd_ne _ _ _ _ n57, upd_ne _ _ _ _ n56]; exact a5
  have g56 : H5 r6 = some (.cells [dI 0] 29) := by rw [hH5, upd_ne _ _ _ _ n67, upd_ne _ _ _ _ n67]; exact upd_same _ _ _
  have hs5 : Sub H H5 := by rw [hH5]; exact ((((((Sub.refl H).new hr4 _).new hr5 _).new hr6 _).new hr7 _).up hr7' _)
  simp (disch := omega) only [go_sem, dWrong];intro r8 hr8; dsimp only at hr8;have n48 : r4 ≠ r8 := none_ne hr8 g54;have n58 : r5 ≠ r8 := none_ne hr8 g55;have n68 : r6 ≠ r8 := none_ne hr8 g56;simp (disch := omega) only [go_sem, g54, g55, g56, n48, n58, n68, n45, n46, n56, m45, n64, n65];have hsK := fun x y z => (((hs5.new hr8 x).up hr5' y).up hr6' z);exact Seen.fin (hsK _ _ _) (Seen.tuple (.cons (Seen.agg (Seen.ex (l := []) (a := []) (hsK _ _ _) (.exs0 (hsK _ _ _)) (.as0 (hsK _ _ _)))) (Seens.keep (hsK _ _ _) _))) ⟨rfl, rfl⟩
end
end Go.Dl

-- Chapter 3: expressions: the plain laws, part 4: with enough fuel reading comes to an answer; then it needs no fuel.
namespace Go.Dl
open Go
set_option maxRecDepth 10000
section
variable {l : List Tok}
theorem then_ne {α β : Type} {a : Nat} {r : Res α} {f : α → Nat → Res β} (h : r ≠ .bot) (ha : Adv l a r) (k : ∀ x n, a ≤ n → n ≤ l.length → f x n ≠ .bot) : r.then f ≠ .bot := by
 cases r with
 | bot => exact absurd rfl h
 | fail n => intro e; cases e
 | ok x n => exact k x n ha.1 ha.2
theorem ok_ne {α : Type} {x : α} {k : Nat} : (Res.ok x k) ≠ .bot := fun e => by cases e
theorem fail_ne {α : Type} {k : Nat} : (Res.fail k : Res α) ≠ .bot := fun e => by cases e
theorem must_ne {α : Type} {s : List UInt8} {k : Nat} {f : Nat → Res α} (hk : k ≤ l.length) (h : k + 1 ≤ l.length → f (k + 1) ≠ .bot) : must l s k f ≠ .bot := by
 unfold must;split
 ·rename_i hw
  exact h (isW_lt hw hk)
 ·exact fail_ne
theorem takeN_ne {α : Type} {k : Nat} {f : List UInt8 → Nat → Res α} (h : k + 1 ≤ l.length → ∀ s, f s (k + 1) ≠ .bot) : takeN l k f ≠ .bot := by
 unfold takeN;split
 ·rename_i hw
  exact h (tk_lt (by rw [hw]; decide)) _
 ·exact fail_ne
structure PS.Tot (l : List Tok) (n : Nat) (p : PS) : Prop where
 expr : ∀ k, k ≤ l.length → 8 * (l.length - k) + 6 ≤ n → p.expr k ≠ .bot
 rest : ∀ x k, k ≤ l.length → 8 * (l.length - k) + 2 ≤ n → p.rest x k ≠ .bot
 restL : ∀ o x k, k ≤ l.length → 8 * (l.length - k) + 1 ≤ n → p.restL o x k ≠ .bot
 relation : ∀ x k, k ≤ l.length → 8 * (l.length - k) + 1 ≤ n → p.relation x k ≠ .bot
 simple : ∀ k, k ≤ l.length → 8 * (l.length - k) + 5 ≤ n → p.simple k ≠ .bot
 addL : ∀ x k, k ≤ l.length → 8 * (l.length - k) + 1 ≤ n → p.addL x k ≠ .bot
 term : ∀ k, k ≤ l.length → 8 * (l.length - k) + 4 ≤ n → p.term k ≠ .bot
 mulL : ∀ x k, k ≤ l.length → 8 * (l.length - k) + 1 ≤ n → p.mulL x k ≠ .bot
 factor : ∀ k, k ≤ l.length → 8 * (l.length - k) + 3 ≤ n → p.factor k ≠ .bot
 primary : ∀ k, k ≤ l.length → 8 * (l.length - k) + 2 ≤ n → p.primary k ≠ .bot
 paren : ∀ k, k ≤ l.length → 8 * (l.length - k) + 1 ≤ n → p.paren k ≠ .bot
 assoc : ∀ k, k ≤ l.length → 8 * (l.length - k) + 7 ≤ n → p.assoc k ≠ .bot
 assocsL : ∀ a k, k ≤ l.length → 8 * (l.length - k) + 1 ≤ n → p.assocsL a k ≠ .bot
 choice : ∀ k, k ≤ l.length → 8 * (l.length - k) + 6 ≤ n → p.choice k ≠ .bot
 choicesL : ∀ a k, k ≤ l.length → 8 * (l.length - k) + 1 ≤ n → p.choicesL a k ≠ .bot
 arg : ∀ k, k ≤ l.length → 8 * (l.length - k) + 7 ≤ n → p.arg k ≠ .bot
 argsL : ∀ a k, k ≤ l.length → 8 * (l.length - k) + 1 ≤ n → p.argsL a k ≠ .bot
 name : ∀ k, k ≤ l.length → 8 * (l.length - k) + 1 ≤ n → p.name k ≠ .bot
 nameL : ∀ i x k, k ≤ l.length → 8 * (l.length - k) + 1 ≤ n → p.nameL i x k ≠ .bot
theorem stepP_tot {p : PS} {n : Nat} (h : p.Tot l n) (ha : p.Adv l) : (stepP l p).Tot l (n + 1) where
 expr k hk hn := then_ne (h.simple k hk (by omega)) (ha.simple k hk) fun x m h1 h2 => h.rest x m h2 (by omega)
 rest x k hk hn := then_ne (h.relation x k hk (by omega)) (ha.relation x k hk) fun x m h1 h2 => h.restL _ x m h2 (by omega)
 restL o x k hk hn := by
  dsimp only [stepP]
  split
  ·exact ok_ne
  ·obtain ⟨q1, q2, q3, q4⟩ := opF_adv (want := o) ops_ok.1 hk
   split
   ·exact ok_ne
   ·rename_i hq
    have := q2 hq
    exact then_ne (h.simple _ q3 (by omega)) (ha.simple _ q3) fun y n h1 h2 => then_ne (h.relation y n h2 (by omega)) (ha.relation y n h2) fun z m h3 h4 => h.restL _ _ m h4 (by omega)
 relation x k hk hn := by
  dsimp only [stepP]
  obtain ⟨q1, q2, q3, q4⟩ := opF_adv (want := 0) ops_ok.2.1 hk
  have hin : ∀ kind j, k + 1 ≤ j → j ≤ l.length → inK l x kind j p ≠ .bot := fun kind j h1 h2 => by
   refine then_ne (h.simple j h2 (by omega)) (ha.simple j h2) fun y m h3 h4 => ?_
   split
   ·rename_i hw
    have := isW_lt hw h4
    have := this
    simp only [List.length_cons, List.length_nil] at this
    exact then_ne (h.simple (m + 1) (by omega) (by omega)) (ha.simple (m + 1) (by omega)) fun z m _ _ => ok_ne
   ·split
    ·exact ok_ne
    ·exact fail_ne
  split
  ·rename_i hq
   have := q2 hq
   exact then_ne (h.simple _ q3 (by omega)) (ha.simple _ q3) fun y n h1 h2 => ok_ne
  ·split
   ·rename_i hw
    have := isW_lt hw hk
    simp only [List.length_cons, List.length_nil] at this
    exact hin _ _ (by omega) (by omega)
   ·split
    ·rename_i hw
     have := isW_lt hw hk
     simp only [List.length_cons, List.length_nil] at this
     exact hin _ _ (by omega) (by omega)
    ·exact ok_ne
 simple k hk hn := by
  obtain ⟨q1, q2, q3, q4⟩ := opF_adv (want := 0) ops_ok.2.2.1 hk
  exact then_ne (h.term _ q3 (by omega)) (ha.term _ q3) fun x n h1 h2 => h.addL _ n h2 (by omega)
 addL x k hk hn := by
  dsimp only [stepP]
  obtain ⟨q1, q2, q3, q4⟩ := opF_adv (want := 0) ops_ok.2.2.2.1 hk
  split
  ·exact ok_ne
  ·rename_i hq
   have := q2 hq
   exact then_ne (h.term _ q3 (by omega)) (ha.term _ q3) fun x n h1 h2 => h.addL _ n h2 (by omega)
 term k hk hn := then_ne (h.factor k hk (by omega)) (ha.factor k hk) fun x n h1 h2 => h.mulL _ n h2 (by omega)
 mulL x k hk hn := by
  dsimp only [stepP]
  obtain ⟨q1, q2, q3, q4⟩ := opF_adv (want := 0) ops_ok.2.2.2.2.1 hk
  split
  ·exact ok_ne
  ·rename_i hq
   have := q2 hq
   exact then_ne (h.factor _ q3 (by omega)) (ha.factor _ q3) fun x n h1 h2 => h.mulL _ n h2 (by omega)
 factor k hk hn := by
  obtain ⟨q1, q2, q3, q4⟩ := opF_adv (want := 0) ops_ok.2.2.2.2.2 hk
  exact then_ne (h.primary _ q3 (by omega)) (ha.primary _ q3) fun x n h1 h2 => ok_ne
 primary k hk hn := by
  dsimp only [stepP]
  split
  ·exact ok_ne
  ·split
   ·exact ok_ne
   ·split
    ·exact h.paren k hk (by omega)
    ·exact h.name k hk (by omega)
 paren k hk hn := by
  dsimp only [stepP]
  refine must_ne hk fun hk1 => ?_
  split
  ·rename_i hw
   have := isW_lt hw hk1
   simp only [List.length_cons, List.length_nil] at this
   refine then_ne (h.expr _ this (by omega)) (ha.expr _ this) fun a n1 h1 h2 => must_ne h2 fun h3 => then_ne (h.expr _ h3 (by omega)) (ha.expr _ h3) fun b n2 h4 h5 => must_ne h5 fun h6 => then_ne (h.expr _ h6 (by omega)) (ha.expr _ h6) fun c n3 h7 h8 => must_ne h8 fun h9 => ok_ne
  ·exact then_ne (h.assoc _ hk1 (by omega)) (ha.assoc _ hk1) fun a n1 h1 h2 => then_ne (h.assocsL _ _ h2 (by omega)) (ha.assocsL _ _ h2) fun az n2 h3 h4 => must_ne h4 fun h5 => ok_ne
 assoc k hk hn := by
  refine then_ne (h.choice k hk (by omega)) (ha.choice k hk) fun c n h1 h2 => ?_
  split
  ·exact ok_ne
  ·split
   ·exact must_ne h2 fun h3 => then_ne (h.expr _ h3 (by omega)) (ha.expr _ h3) fun e m h4 h5 => ok_ne
   ·exact then_ne (h.choicesL _ _ h2 (by omega)) (ha.choicesL _ _ h2) fun cs m h3 h4 => must_ne h4 fun h5 => then_ne (h.expr _ h5 (by omega)) (ha.expr _ h5) fun e m h6 h7 => ok_ne
 assocsL az k hk hn := by
  dsimp only [stepP]
  split
  ·rename_i hw
   have := isW_lt hw hk
   simp only [List.length_cons, List.length_nil] at this
   exact then_ne (h.assoc _ this (by omega)) (ha.assoc _ this) fun a n h1 h2 => h.assocsL _ n h2 (by omega)
  ·exact ok_ne
 choice k hk hn := by
  dsimp only [stepP]
  split
  ·exact ok_ne
  ·refine then_ne (h.simple k hk (by omega)) (ha.simple k hk) fun x n h1 h2 => ?_
   split
   ·rename_i hw
    have := isW_lt hw h2
    simp only [List.length_cons, List.length_nil] at this
    exact then_ne (h.simple _ this (by omega)) (ha.simple _ this) fun y m h3 h4 => ok_ne
   ·exact then_ne (h.rest x n h2 (by omega)) (ha.rest x n h2) fun y m h3 h4 => ok_ne
 choicesL az k hk hn := by
  dsimp only [stepP]
  split
  ·rename_i hw
   have := isW_lt hw hk
   simp only [List.length_cons, List.length_nil] at this
   exact then_ne (h.choice _ this (by omega)) (ha.choice _ this) fun a n h1 h2 => h.choicesL _ n h2 (by omega)
  ·exact ok_ne
 arg k hk hn := by
  dsimp only [stepP]
  split
  ·rename_i hw
   have h1 := tk_lt (l := l) (k := k) (by rw [hw.1]; decide)
   have := isW_lt hw.2 h1
   simp only [List.length_cons, List.length_nil] at this
   exact then_ne (h.expr _ this (by omega)) (ha.expr _ this) fun y m h3 h4 => ok_ne
  ·exact then_ne (h.expr k hk (by omega)) (ha.expr k hk) fun y m h3 h4 => ok_ne
 argsL az k hk hn := by
  dsimp only [stepP]
  split
  ·rename_i hw
   have := isW_lt hw hk
   simp only [List.length_cons, List.length_nil] at this
   exact then_ne (h.arg _ this (by omega)) (ha.arg _ this) fun a n h1 h2 => h.argsL _ n h2 (by omega)
  ·exact ok_ne
 name k hk hn := takeN_ne fun h1 s => h.nameL _ _ _ h1 (by omega)
 nameL i x k hk hn := by
  dsimp only [stepP]
  split
  ·rename_i hw
   have := isW_lt hw hk
   simp only [List.length_cons, List.length_nil] at this
   exact h.nameL _ _ _ (by omega) (by omega)
  ·split
   ·rename_i hw
    have := isW_lt hw hk
    simp only [List.length_cons, List.length_nil] at this
    exact takeN_ne fun h1 s => h.nameL _ _ _ h1 (by omega)
   ·split
    ·rename_i hw
     have := isW_lt hw hk
     simp only [List.length_cons, List.length_nil] at this
     exact then_ne (h.arg _ this (by omega)) (ha.arg _ this) fun a n h1 h2 => then_ne (h.argsL _ _ h2 (by omega)) (ha.argsL _ _ h2) fun az m h3 h4 => must_ne h4 fun h5 => h.nameL _ _ _ h5 (by omega)
    ·split
     ·rename_i hw
      have := isW_lt hw hk
      simp only [List.length_cons, List.length_nil] at this
      exact then_ne (h.paren _ (by omega) (by omega)) (ha.paren _ (by omega)) fun a n h1 h2 => h.nameL _ _ _ h2 (by omega)
     ·split
      ·rename_i hw
       have := isW_lt hw hk
       simp only [List.length_cons, List.length_nil] at this
       exact takeN_ne fun h1 s => h.nameL _ _ _ h1 (by omega)
      ·exact ok_ne
theorem P_tot : ∀ n, (P l n).Tot l n
 | 0 => by constructor <;> intros <;> omega
 | n + 1 => stepP_tot (P_tot n) (P_adv n)
def fuel (l : List Tok) : Nat := 8 * l.length + 20
def Q (l : List Tok) : PS := P l (fuel l)
theorem le_eq {α : Type} {r r' : Res α} (h : r.Le r') (hn : r ≠ .bot) : r' = r := by
 rcases h with h | h
 ·exact absurd h hn
 ·exact h.symm
structure PS.Fix (l : List Tok) (p : PS) : Prop where
 expr : ∀ k, k ≤ l.length → p.expr k = (stepP l p).expr k
 rest : ∀ x k, k ≤ l.length → p.rest x k = (stepP l p).rest x k
 restL : ∀ o x k, k ≤ l.length → p.restL o x k = (stepP l p).restL o x k
 relation : ∀ x k, k ≤ l.length → p.relation x k = (stepP l p).relation x k
 simple : ∀ k, k ≤ l.length → p.simple k = (stepP l p).simple k
 addL : ∀ x k, k ≤ l.length → p.addL x k = (stepP l p).addL x k
 term : ∀ k, k ≤ l.length → p.term k = (stepP l p).term k
 mulL : ∀ x k, k ≤ l.length → p.mulL x k = (stepP l p).mulL x k
 factor : ∀ k, k ≤ l.length → p.factor k = (stepP l p).factor k
 primary : ∀ k, k ≤ l.length → p.primary k = (stepP l p).primary k
 paren : ∀ k, k ≤ l.length → p.paren k = (stepP l p).paren k
 assoc : ∀ k, k ≤ l.length → p.assoc k = (stepP l p).assoc k
 assocsL : ∀ a k, k ≤ l.length → p.assocsL a k = (stepP l p).assocsL a k
 choice : ∀ k, k ≤ l.length → p.choice k = (stepP l p).choice k
 choicesL : ∀ a k, k ≤ l.length → p.choicesL a k = (stepP l p).choicesL a k
 arg : ∀ k, k ≤ l.length → p.arg k = (stepP l p).arg k
 argsL : ∀ a k, k ≤ l.length → p.argsL a k = (stepP l p).argsL a k
 name : ∀ k, k ≤ l.length → p.name k = (stepP l p).name k
 nameL : ∀ i x k, k ≤ l.length → p.nameL i x k = (stepP l p).nameL i x k
theorem Q_tot : (Q l).Tot l (fuel l) := P_tot _
theorem Q_adv : (Q l).Adv l := P_adv _
theorem Q_fix : (Q l).Fix l := by
 have h : (Q l).Le (stepP l (Q l)) := P_succ_le _;have t := Q_tot (l := l);have f : ∀ k, 8 * (l.length - k) + 7 ≤ fuel l := fun k => by unfold fuel; omega
 have f' : ∀ {k a : Nat}, a ≤ 7 → 8 * (l.length - k) + a ≤ fuel l := fun {k a} ha => by have := f k; omega
 exact ⟨fun k hk => (le_eq (h.expr k) (t.expr k hk (f' (by omega)))).symm,
  fun x k hk => (le_eq (h.rest x k) (t.rest x k hk (f' (by omega)))).symm,
  fun o x k hk => (le_eq (h.restL o x k) (t.restL o x k hk (f' (by omega)))).symm,
  fun x k hk => (le_eq (h.relation x k) (t.relation x k hk (f' (by omega)))).symm,
  fun k hk => (le_eq (h.simple k) (t.simple k hk (f' (by omega)))).symm,
  fun x k hk => (le_eq (h.addL x k) (t.addL x k hk (f' (by omega)))).symm,
  fun k hk => (le_eq (h.term k) (t.term k hk (f' (by omega)))).symm,
  fun x k hk => (le_eq (h.mulL x k) (t.mulL x k hk (f' (by omega)))).symm,
  fun k hk => (le_eq (h.factor k) (t.factor k hk (f' (by omega)))).symm,
  fun k hk => (le_eq (h.primary k) (t.primary k hk (f' (by omega)))).symm,
  fun k hk => (le_eq (h.paren k) (t.paren k hk (f' (by omega)))).symm,
  fun k hk => (le_eq (h.assoc k) (t.assoc k hk (f' (by omega)))).symm,
  fun x k hk => (le_eq (h.assocsL x k) (t.assocsL x k hk (f' (by omega)))).symm,
  fun k hk => (le_eq (h.choice k) (t.choice k hk (f' (by omega)))).symm,
  fun x k hk => (le_eq (h.choicesL x k) (t.choicesL x k hk (f' (by omega)))).symm,
  fun k hk => (le_eq (h.arg k) (t.arg k hk (f' (by omega)))).symm,
  fun x k hk => (le_eq (h.argsL x k) (t.argsL x k hk (f' (by omega)))).symm,
  fun k hk => (le_eq (h.name k) (t.name k hk (f' (by omega)))).symm,
  fun i x k hk => (le_eq (h.nameL i x k) (t.nameL i x k hk (f' (by omega)))).symm⟩
end
end Go.Dl

-- Chapter 3: expressions: the plain laws, part 5: the tokens of an expression.
namespace Go.Dl
open Go
set_option maxRecDepth 10000
def wTok (s : List UInt8) : Tok := ⟨kindW s, 0, s, 0⟩
def nmTok (s : List UInt8) : Tok := ⟨1, 0, s, 0⟩
def inTok (n : Int) : Tok := ⟨3, 0, [], n⟩
def parT (b : Bool) (t : List Tok) : List Tok := if b then wTok wOpen :: (t ++ [wTok wShut]) else t
def sepT (s : List UInt8) : List (List Tok) → List Tok
 | [] => []
 | [x] => x
 | x :: r => x ++ wTok s :: sepT s r
def leastM (e : Ex) : Int := if levelE e = 2 then 3 else 5
def leastL (e : Ex) : Int := if levelE e = 1 then 2 else if levelE e = 0 ∧ ((e.l.getD 0 ex0).kind ≠ 12 ∨ (e.l.getD 0 ex0).oper ≠ e.oper) then 1 else levelE e
def leastR (e : Ex) : Int := if levelE e = 1 then 2 else levelE e + 1
def bareK (k : Int) : Bool := decide (k = 9) || decide (k = 10)
def formE (e : Ex) (tl ta : List (List Tok)) : List Tok :=
 let p := fun (i : Nat) (lv : Int) => parT (decide (levelE (e.l.getD i ex0) < lv)) (tl.getD i [])
 if e.kind = 1 then [inTok e.n] else if e.kind = 2 then [wTok wNull] else if e.kind = 3 then [nmTok e.s]
 else if e.kind = 4 then tl.getD 0 [] ++ [wTok wDot, nmTok e.s]
 else if e.kind = 5 then tl.getD 0 [] ++ [wTok wDot, wTok wAll]
 else if e.kind = 6 then tl.getD 0 [] ++ [wTok wTick, nmTok e.s]
 else if e.kind = 7 then tl.getD 0 [] ++ wTok wOpen :: (sepT wComma ta ++ [wTok wShut])
 else if e.kind = 8 then tl.getD 0 [] ++ wTok wTick :: parT (!bareK (e.l.getD 1 ex0).kind) (tl.getD 1 [])
 else if e.kind = 9 then wTok wOpen :: (sepT wComma ta ++ [wTok wShut])
 else if e.kind = 10 then wTok wOpen :: wTok wIf :: (tl.getD 0 [] ++ wTok wThen :: (tl.getD 1 [] ++ wTok wElse :: (tl.getD 2 [] ++ [wTok wShut])))
 else if e.kind = 11 then (wordsN e.oper.toNat).map wTok ++ p 0 (leastM e)
 else if e.kind = 12 then p 0 (leastL e) ++ ((wordsN e.oper.toNat).map wTok ++ p 1 (leastR e))
 else if e.kind = 13 then p 0 2 ++ wTok wIn :: (if e.l.length = 3 then p 1 2 ++ wTok wDots :: p 2 2 else tl.getD 1 [])
 else p 0 2 ++ wTok wNot :: wTok wIn :: (if e.l.length = 3 then p 1 2 ++ wTok wDots :: p 2 2 else tl.getD 1 [])
def formC (k : Int) (l : List Ex) (tl : List (List Tok)) : List Tok :=
 let p := fun (i : Nat) (lv : Int) => parT (decide (levelE (l.getD i ex0) < lv)) (tl.getD i [])
 if k = 1 then tl.getD 0 [] else if k = 2 then p 0 2 ++ wTok wDots :: p 1 2 else [wTok wOthers]
def formA (tc : List (List Tok)) (te : List Tok) : List Tok := if tc.isEmpty then te else sepT wBar tc ++ wTok wArrow :: te
mutual
def toksE : Ex → List Tok
 | .mk k o n s l a li en t => formE (.mk k o n s l a li en t) (toksLE l) (toksAs a)
def toksLE : List Ex → List (List Tok)
 | [] => []
 | x :: l => toksE x :: toksLE l
def toksA : As → List Tok
 | .mk c e => formA (toksCs c) (toksE e)
def toksAs : List As → List (List Tok)
 | [] => []
 | x :: l => toksA x :: toksAs l
def toksC : Ch → List Tok
 | .mk k l => formC k l (toksLE l)
def toksCs : List Ch → List (List Tok)
 | [] => []
 | x :: l => toksC x :: toksCs l
end
theorem toksLE_map : ∀ l : List Ex, toksLE l = l.map toksE
 | [] => rfl
 | x :: l => by rw [toksLE, toksLE_map l, List.map_cons]
theorem toksAs_map : ∀ l : List As, toksAs l = l.map toksA
 | [] => rfl
 | x :: l => by rw [toksAs, toksAs_map l, List.map_cons]
theorem toksCs_map : ∀ l : List Ch, toksCs l = l.map toksC
 | [] => rfl
 | x :: l => by rw [toksCs, toksCs_map l, List.map_cons]
theorem toksE_eq (e : Ex) : toksE e = formE e (e.l.map toksE) (e.a.map toksA) := by
 cases e; rw [toksE, toksLE_map, toksAs_map]; rfl
theorem toksA_eq (x : As) : toksA x = if x.c.isEmpty then toksE x.e else sepT wBar (x.c.map toksC) ++ wTok wArrow :: toksE x.e := by
 cases x with
 | mk c e => rw [toksA, toksCs_map, formA]; cases c <;> rfl
def partE (e : Ex) (lv : Int) : List Tok := parT (decide (levelE e < lv)) (toksE e)
theorem getD_map {α β : Type} (f : α → β) (l : List α) (i : Nat) (d : α) (e : β) (h : i < l.length) : (l.map f).getD i e = f (l.getD i d) := by
 simp [List.getD, List.getElem?_map, List.getElem?_eq_getElem h]
theorem toksC_eq (c : Ch) : toksC c = if c.kind = 1 then (c.l.map toksE).getD 0 [] else if c.kind = 2 then parT (decide (levelE (c.l.getD 0 ex0) < 2)) ((c.l.map toksE).getD 0 []) ++ wTok wDots :: parT (decide (levelE (c.l.getD 1 ex0) < 2)) ((c.l.map toksE).getD 1 []) else [wTok wOthers] := by
 cases c; rw [toksC, toksLE_map]; rfl
def tE (e : Ex) (i : Nat) : List Tok := (e.l.map toksE).getD i []
def pE (e : Ex) (i : Nat) (lv : Int) : List Tok := parT (decide (levelE (e.l.getD i ex0) < lv)) (tE e i)
def tailE (e : Ex) : List Tok := if e.l.length = 3 then pE e 1 2 ++ wTok wDots :: pE e 2 2 else tE e 1
def taE (e : Ex) : List Tok := sepT wComma (e.a.map toksA)
section
variable {e : Ex}
theorem toks1 (h : e.kind = 1) : toksE e = [inTok e.n] := by rw [toksE_eq]; unfold formE; rw [h]; rfl
theorem toks2 (h : e.kind = 2) : toksE e = [wTok wNull] := by rw [toksE_eq]; unfold formE; rw [h]; rfl
theorem toks3 (h : e.kind = 3) : toksE e = [nmTok e.s] := by rw [toksE_eq]; unfold formE; rw [h]; rfl
theorem toks4 (h : e.kind = 4) : toksE e = tE e 0 ++ [wTok wDot, nmTok e.s] := by rw [toksE_eq]; unfold formE; rw [h]; rfl
theorem toks5 (h : e.kind = 5) : toksE e = tE e 0 ++ [wTok wDot, wTok wAll] := by rw [toksE_eq]; unfold formE; rw [h]; rfl
theorem toks6 (h : e.kind = 6) : toksE e = tE e 0 ++ [wTok wTick, nmTok e.s] := by rw [toksE_eq]; unfold formE; rw [h]; rfl
theorem toks7 (h : e.kind = 7) : toksE e = tE e 0 ++ wTok wOpen :: (taE e ++ [wTok wShut]) := by rw [toksE_eq]; unfold formE; rw [h]; rfl
theorem toks8 (h : e.kind = 8) : toksE e = tE e 0 ++ wTok wTick :: parT (!bareK (e.l.getD 1 ex0).kind) (tE e 1) := by rw [toksE_eq]; unfold formE; rw [h]; rfl
theorem toks9 (h : e.kind = 9) : toksE e = wTok wOpen :: (taE e ++ [wTok wShut]) := by rw [toksE_eq]; unfold formE; rw [h]; rfl
theorem toks10 (h : e.kind = 10) : toksE e = wTok wOpen :: wTok wIf :: (tE e 0 ++ wTok wThen :: (tE e 1 ++ wTok wElse :: (tE e 2 ++ [wTok wShut]))) := by rw [toksE_eq]; unfold formE; rw [h]; rfl
theorem toks11 (h : e.kind = 11) : toksE e = (wordsN e.oper.toNat).map wTok ++ pE e 0 (leastM e) := by rw [toksE_eq]; unfold formE; rw [h]; rfl
theorem toks12 (h : e.kind = 12) : toksE e = pE e 0 (leastL e) ++ ((wordsN e.oper.toNat).map wTok ++ pE e 1 (leastR e)) := by rw [toksE_eq]; unfold formE; rw [h]; rfl
theorem toks13 (h : e.kind = 13) : toksE e = pE e 0 2 ++ wTok wIn :: tailE e := by rw [toksE_eq]; unfold formE; rw [h]; rfl
theorem toks14 (h : e.kind = 14) : toksE e = pE e 0 2 ++ wTok wNot :: wTok wIn :: tailE e := by rw [toksE_eq]; unfold formE; rw [h]; rfl
theorem tE_at {i : Nat} (h : i < e.l.length) : tE e i = toksE (e.l.getD i ex0) := getD_map toksE e.l i ex0 [] h
theorem pE_at {i : Nat} (h : i < e.l.length) (lv : Int) : pE e i lv = partE (e.l.getD i ex0) lv := by rw [pE, tE_at h]; rfl
end
theorem kind_word {s : List UInt8} : kindW s ≠ 1 ∧ kindW s ≠ 3 ∧ kindW s ≠ 0 := by
 unfold kindW; split <;> decide
theorem sepT_cons (s : List UInt8) (x : List Tok) (r : List (List Tok)) (h : r ≠ []) : sepT s (x :: r) = x ++ wTok s :: sepT s r := by
 cases r with
 | nil => exact absurd rfl h
 | cons y r => rfl
theorem sepT_snoc (s : List UInt8) : ∀ (l : List (List Tok)) (x : List Tok), l ≠ [] → sepT s (l ++ [x]) = sepT s l ++ wTok s :: x
 | [], _, h => absurd rfl h
 | [y], x, _ => rfl
 | y :: z :: r, x, _ => by
  rw [List.cons_append, sepT_cons s y _ (by simp), sepT_snoc s (z :: r) x (by simp), sepT_cons s y (z :: r) (by simp)];simp
end Go.Dl

-- Chapter 3: expressions: the plain laws, part 6: what was read ends with a token that ends an expression; reading sees no token behind it.
namespace Go.Dl
open Go
set_option maxRecDepth 10000
section
variable {l : List Tok}
theorem isW1 {k : Nat} {s : List UInt8} : isW l k [s] = (decide ((tk l k).kind = kindW s) && decide ((tk l k).text = s)) := by rw [isW, isW, Bool.and_true]
theorem isW2 {k : Nat} {s t : List UInt8} : isW l k [s, t] = (isW l k [s] && isW l (k + 1) [t]) := by rw [isW, isW1 (s := s), isW1 (s := t)]
theorem isW1_ne {k : Nat} {s t : List UInt8} (h : isW l k [s] = true) (hs : s ≠ t) : isW l k [t] = false := by
 rw [isW1, Bool.and_eq_true, decide_eq_true_eq, decide_eq_true_eq] at h;rw [isW1, h.2, decide_eq_false hs, Bool.and_false]
end
end Go.Dl

-- Chapter 3: expressions: the plain laws, part 7: reading sees no token behind what it reads.
namespace Go.Dl
open Go
set_option maxRecDepth 10000
section
variable {l : List Tok} {n : Nat}
theorem isW_head {k : Nat} {ws : List (List UInt8)} {s : List UInt8} (h : isW l k ws = true) (hs : ws.head? = some s) : isW l k [s] = true := by
 cases ws with
 | nil => cases hs
 | cons a r =>
  cases hs;rw [isW, Bool.and_eq_true] at h;rw [isW1]; exact h.1
theorem opF_none {want k : Nat} {l : List Tok} : ∀ {os : List Nat}, (∀ o ∈ os, isW l k (wordsN o) = false) → opF l want k os = (0, k)
 | [], _ => rfl
 | o :: r, h => by rw [opF, h o (by simp), if_neg (by simp)]; exact opF_none fun x hx => h x (by simp [hx])
end
end Go.Dl

-- Chapter 3: expressions: the plain laws, part 8: what was read is not shorter than its tokens.
namespace Go.Dl
open Go
set_option maxRecDepth 10000
section
variable {l : List Tok}
theorem parT_len (b : Bool) (t : List Tok) : (parT b t).length = t.length + if b then 2 else 0 := by
 cases b <;> simp [parT]
theorem level_ge (e : Ex) : 0 ≤ levelE e ∧ levelE e ≤ 5 := by
 unfold levelE; repeat' split
 all_goals omega
def Post {α : Type} (R : α → Nat → Prop) (r : Res α) : Prop := ∀ x k', r = .ok x k' → R x k'
theorem post_then {α β : Type} {r : Res α} {f : α → Nat → Res β} {R : α → Nat → Prop} {S : β → Nat → Prop} (h : Post R r) (hf : ∀ x k1, R x k1 → Post S (f x k1)) : Post S (r.then f) := fun y k' e => by
 cases r with
 | bot => cases e
 | fail n => cases e
 | ok x n => exact hf x n (h x n rfl) y k' e
theorem post_ok {α : Type} {R : α → Nat → Prop} {k : Nat} {x : α} (h : R x k) : Post R (.ok x k) := fun y k' e => by cases e; exact h
theorem post_fail {α : Type} {R : α → Nat → Prop} {k : Nat} : Post R (.fail k) := fun y k' e => by cases e
theorem post_must {α : Type} {R : α → Nat → Prop} {k : Nat} {s : List UInt8} {f : Nat → Res α} (h : isW l k [s] = true → Post R (f (k + 1))) : Post R (must l s k f) := by
 unfold must;split
 ·exact h ‹_›
 ·exact post_fail
theorem post_take {α : Type} {R : α → Nat → Prop} {k : Nat} {f : List UInt8 → Nat → Res α} (h : (tk l k).kind = 1 → Post R (f (tk l k).text (k + 1))) : Post R (takeN l k f) := by
 unfold takeN;split
 ·exact h ‹_›
 ·exact post_fail
theorem post_and {α : Type} {R S : α → Nat → Prop} {r : Res α} (h : Post R r) (g : Post S r) : Post (fun x k => R x k ∧ S x k) r := fun x k e => ⟨h x k e, g x k e⟩
theorem adv_post {α : Type} {a : Nat} {r : Res α} (h : Adv l a r) : Post (fun _ k' => a ≤ k' ∧ k' ≤ l.length) r := fun x k' e => by rw [e] at h; exact h
def sepN (ta : List (List Tok)) : Nat := (ta.map fun t => t.length + 1).sum - 1
theorem sepT_len (s : List UInt8) : ∀ l : List (List Tok), (sepT s l).length = sepN l
 | [] => rfl
 | [x] => by simp [sepT, sepN]
 | x :: y :: r => by
  have ih := sepT_len s (y :: r);rw [sepT_cons s x _ (by simp), List.length_append, List.length_cons, ih];simp only [sepN, List.map_cons, List.sum_cons];omega
def sumT (ta : List (List Tok)) : Nat := (ta.map fun t => t.length + 1).sum
theorem named_level {e : Ex} (h : namedE e = true) : levelE e = 5 := by
 unfold namedE at h;rw [Bool.and_eq_true, decide_eq_true_eq, decide_eq_true_eq] at h;unfold levelE;rw [if_neg (by omega), if_neg (by omega), if_neg (by omega)]
theorem opF_mem {want k : Nat} : ∀ {os : List Nat}, (opF l want k os).1 ≠ 0 → (opF l want k os).1 ∈ os ∧ (opF l want k os).2 = k + (wordsN (opF l want k os).1).length ∧ isW l k (wordsN (opF l want k os).1) = true
 | [], h => absurd rfl h
 | o :: r, h => by
  rw [opF] at h ⊢
  split
  ·rename_i hw
   rw [if_pos hw] at h;split
   ·rename_i hc
    rw [if_pos hc] at h; exact absurd rfl h
   ·exact ⟨List.mem_cons_self, rfl, hw⟩
  ·rename_i hw
   rw [if_neg hw] at h;have := opF_mem h;exact ⟨List.mem_cons_of_mem _ this.1, this.2⟩
theorem sign_mem {o : Nat} (h : o ∈ opsSign) : o = 18 ∨ o = 19 := by simp [opsSign] at h; omega
theorem fac_mem {o : Nat} (h : o ∈ opsFac) : o = 20 ∨ o = 21 := by simp [opsFac] at h; omega
theorem sumT_len (s : List UInt8) (ta : List (List Tok)) (h : ta ≠ []) : (sepT s ta).length + 1 = sumT ta := by
 rw [sepT_len, sepN, sumT];cases ta with
 | nil => exact absurd rfl h
 | cons t r => simp only [List.map_cons, List.sum_cons]; omega
end
end Go.Dl
