/- The data level and the contracts of the functions that are reached (part 8). -/
import Derived.Test.YtfekogpdmjbdkaaGreatDoorPag
set_option linter.unusedSimpArgs false
set_option linter.unusedVariables false
set_option linter.unusedSectionVars false
-- Chapter 3: the package's reader: names.
namespace Go.Dl
open Go Go.Proofs
set_option maxRecDepth 100000
section
variable {G : Nat → DVal} {H0 H H' K T B : DHeap} {r k : Nat} {l : List Tok}
theorem lastsD (hd : ∀ b, K b = none → T b = none) (w : World) : Lasts K w T w := ⟨fun b i x hb hc => ⟨hd b hb, hc⟩, Nat.le_refl _, fun _ _ => rfl⟩
theorem Seen.keepD (hd : ∀ b, K b = none → T b = none) (v : DVal) : Seen K v T v := fun w _ x hx => Rel.lasts (lastsD hd w) _ _ hx
theorem Seens.keepD (hd : ∀ b, K b = none → T b = none) (vs : List DVal) : Seens K vs T vs := fun w _ x hx => RelL.lasts (lastsD hd w) _ _ hx
theorem Seen.cellsD {e : TypeId} {size q n : Nat} {cs cs' : List DVal} (hr : T q = none) (hc : K q = some (.cells cs e)) (hl : cs.length = n * size) (hs : Seens K cs T cs') : Seen K (.oslice size q 0 n n) T (.vslice cs' n) := fun w hw x hx => by
 simp only [Rel] at hx ⊢
 obtain ⟨o, cap, rfl, h1, h2, h3, h4⟩ := hx
 refine ⟨_, cap, rfl, h2, ?_⟩
 by_cases h0 : cs = []
 ·subst h0
  have := hs w hw [] (by simp [RelL])
  cases cs' with
  | nil => exact .inl rfl
  | cons c cs' => simp [RelL] at this
 ·obtain ⟨zs, hl1, hh⟩ := hw.holds hc
  have ho : o = 0 := by
   rcases h3 with h3 | h3
   ·exfalso
    have : n = 0 := by omega
    subst this
    rw [Nat.zero_mul] at hl
    exact h0 (List.length_eq_zero_iff.1 hl)
   ·exact h3
  subst ho
  exact .inr ⟨q, 0, zs, rfl, .inr ⟨hr, fun i y hy => by simpa using hh i y hy⟩, hs w hw zs hl1⟩
theorem Seen.ownD {e : TypeId} {size n : Nat} {cs : List DVal} {v : DVal} (hd : ∀ b, K b = none → T b = none) (hT : ∀ b, B b = none → T b = none) (hv : OwnJ B e size n cs v K) : Seen K v T (.vslice cs n) := by
 rcases hv with ⟨rfl, rfl, rfl, _⟩ | ⟨q, h1, h2, rfl, h4, _⟩
 ·exact fun w _ x hx => Rel.lasts (lastsD hd w) _ _ (DLe.nil w K x hx)
 ·exact Seen.cellsD (hT q h1) h4 h2 (Seens.keepD hd _)
theorem Seens.exD {k o n : Int} {s : List UInt8} {vl va : DVal} {m : List Ex} {a : List As} {li en t : Int} (hd : ∀ b, K b = none → T b = none) (hl : Seen K vl T (dXs m)) (ha : Seen K va T (dAl a)) :
  Seens K [.int .u8 k, .int .u8 o, .int .i64 n, .str s, vl, va, .int .i64 li, .int .i64 en, .int .i64 t] T (dEx (.mk k o n s m a li en t)) := by
 rw [dEx_mk]
 exact .cons (.keepD hd _) (.cons (.keepD hd _) (.cons (.keepD hd _) (.cons (.keepD hd _) (.cons hl (.cons ha (.keepD hd _))))))
theorem Seen.as0D (hd : ∀ b, K b = none → T b = none) : Seen K .nilSlice T (dAl []) := fun w _ x hx => Rel.lasts (lastsD hd w) _ _ (DLe.nil w K x hx)
theorem Seen.exs0D (hd : ∀ b, K b = none → T b = none) : Seen K .nilSlice T (dXs []) := fun w _ x hx => Rel.lasts (lastsD hd w) _ _ (DLe.nil w K x hx)
theorem hd_at {Hb : DHeap} {r4 k' : Nat} {o z : DObj} {l : List Tok} {r : Nat} (hat : RAt r l k' Hb K) (h4 : K r4 = some o) : ∀ b, K b = none → (upd (upd Hb r (some (rdO l k'))) r4 (some z)) b = none := fun b hb => by
 simp only [upd]
 split
 ·rename_i e1; rw [e1, h4] at hb; cases hb
 ·have := Sub.lo hat hb
  simpa only [upd] using this
theorem GhostS.cell {env : Nat → DVal} {r4 : Nat} {cs cs' : List DVal} {e : TypeId} (h4 : K r4 = some (.cells cs e)) (hB : Sub B K) (hs : Seens K cs (upd B r4 (some (.cells cs' e))) cs') : GhostS G ⟨env, K⟩ ⟨env, upd B r4 (some (.cells cs' e))⟩ := fun w hH hG => by
 have hd : ∀ b, K b = none → (upd B r4 (some (.cells cs' e))) b = none := fun b hb => by
  simp only [upd]
  split
  ·rename_i e1; rw [e1, h4] at hb; cases hb
  ·exact hB.lo hb
 refine ⟨fun b o hb => ?_, fun b hb h => hb (hd b h), hG.lasts (lastsD hd w), fun i x hx => Rel.lasts (lastsD hd w) _ _ hx⟩
 simp only [upd] at hb
 split at hb
 ·rename_i e1
  subst e1
  cases hb
  obtain ⟨xs, c, fz, g1, g2, g3, g5⟩ := hH _ _ h4
  exact ⟨xs, c, fz, g1, g2, hs w hH xs g3, g5⟩
 ·exact (hH b o (hB b o hb)).lasts (lastsD hd w)
theorem RAt.up {r k k2 : Nat} {l : List Tok} {H Hb K : DHeap} (h : RAt r l k Hb K) (hab : RAt r l k2 H Hb) : RAt r l k H K := fun b o hb => by
 simp only [upd] at hb
 by_cases c : b = r
 ·rw [if_pos c] at hb
  exact h b o (by simp only [upd]; rw [if_pos c]; exact hb)
 ·rw [if_neg c] at hb
  exact h b o (by simp only [upd]; rw [if_neg c]; exact hab b o (by simp only [upd]; rw [if_neg c]; exact hb))
theorem seens_name {Hb : DHeap} {r4 q k' : Nat} {x : Ex} {e : TypeId} {o : DObj} {z : DObj} {l : List Tok} {r : Nat} {va : DVal} {a : List As} {kd li : Int} {s : List UInt8} (hat : RAt r l k' Hb K) (h4 : K r4 = some o) (hq : Hb q = none) (hqr : q ≠ r) (hq4 : q ≠ r4) (hK : K q = some (.cells (dEx x) e)) (ha : ∀ T, (∀ b, K b = none → T b = none) → Seen K va T (dAl a)) :
  Seens K [.int .u8 kd, .int .u8 0, .int .i64 0, .str s, .oslice 9 q 0 1 1, va, .int .i64 li, .int .i64 0, .int .i64 0] (upd (upd Hb r (some (rdO l k'))) r4 (some z)) (dEx (.mk kd 0 0 s [x] a li 0 0)) := by
 have hd : ∀ b, K b = none → (upd (upd Hb r (some (rdO l k'))) r4 (some z)) b = none := fun b hb => by
  simp only [upd]
  split
  ·rename_i e1; rw [e1, h4] at hb; cases hb
  ·have := Sub.lo hat hb
   simpa only [upd] using this
 refine Seens.exD hd ?_ (ha _ hd)
 show Seen K _ _ (.vslice ([x].flatMap dEx) 1)
 rw [List.flatMap_singleton]
 exact Seen.cellsD (by simp only [upd]; rw [if_neg hq4, if_neg hqr]; exact hq) hK (by rw [dEx_len]) (Seens.keepD hd _)
theorem seens_qual {Hb B : DHeap} {r4 k' : Nat} {x y : Ex} {e : TypeId} {o : DObj} {z : DObj} {l : List Tok} {r : Nat} {v : DVal} {kd li : Int} {s : List UInt8} (hat : RAt r l k' Hb K) (h4 : K r4 = some o) (hB : RAt r l k' Hb B) (hB4 : B r4 ≠ none) (hv : OwnJ B e 9 2 ([x, y].flatMap dEx) v K) :
  Seens K [.int .u8 kd, .int .u8 0, .int .i64 0, .str s, v, .nilSlice, .int .i64 li, .int .i64 0, .int .i64 0] (upd (upd Hb r (some (rdO l k'))) r4 (some z)) (dEx (.mk kd 0 0 s [x, y] [] li 0 0)) := by
 have key : ∀ K' : DHeap, RAt r l k' Hb K' → K' r4 ≠ none → ∀ b, K' b = none → (upd (upd Hb r (some (rdO l k'))) r4 (some z)) b = none := fun K' ht h4 b hb => by
  simp only [upd]
  split
  ·rename_i e1; rw [e1] at hb; exact absurd hb h4
  ·have := Sub.lo ht hb
   simpa only [upd] using this
 have hd := key K hat (by rw [h4]; simp)
 exact Seens.exD hd (Seen.ownD hd (key B hB hB4) hv) (.as0D hd)
end
section
variable {G : Nat → DVal} {H0 H H' : DHeap} {r k : Nat} {l : List Tok}
set_option maxHeartbeats 4000000 in
theorem name_step (hG : GX G) (hl : l.length ≤ 800000) (n : Nat) (hga : ∀ m ≤ n, RdC Tryz.prog G l 157 r fun k => ((P l m).arg k).mp dA) (hgp : ∀ m ≤ n, RdC Tryz.prog G l 127 r fun k => ((P l m).paren k).mp dE) : RdC Tryz.prog G l 69 r fun k => ((P l (n + 1)).name k).mp dE := by
 intro H k hr hk hn
 obtain ⟨t, ht⟩ : ∃ t, t = tk l k := ⟨_, rfl⟩
 have e : (P l (n + 1)).name k = takeN l k fun s k1 => (P l n).nameL (tk l k).line (.mk 3 0 0 s [] [] (tk l k).line 0 0) k1 := rfl
 dsimp only at hn ⊢
 rw [e, takeN, ← ht] at hn ⊢
 refine dcalls_intro Tryz.func69 Tryz.call69 rfl (by kernel_rfl) ?_
 simp (disch := omega) only [go_sem]
 intro r2 hr2; dsimp only at hr2
 obtain ⟨Ha, hHa⟩ : ∃ K, K = upd H r2 (some (.cells [.int .u8 0, .int .u8 0, .int .i64 0, .str [], .nilSlice, .nilSlice, .int .i64 0, .int .i64 0, .int .i64 0] 27)) := ⟨_, rfl⟩
 rw [← hHa]
 have gr2 : Ha r2 = some (.cells [.int .u8 0, .int .u8 0, .int .i64 0, .str [], .nilSlice, .nilSlice, .int .i64 0, .int .i64 0, .int .i64 0] 27) := by rw [hHa]; exact upd_same _ _ _
 have n2 : r ≠ r2 := none_ne hr2 hr
 have q2 := n2.symm
 have ha : RAt r l k H Ha := by rw [hHa]; exact (RAt.refl hr).new hr2 _
 simp (disch := omega) only [go_sem]
 refine (take_spec G Ha 1 ha.get (by omega) (by omega)).mono ?_
 intro e1 H1 hq
 rw [← ht] at hq
 by_cases c : t.kind = 1
 ·rw [if_pos c] at hn hq ⊢
  obtain ⟨rfl, hH1⟩ := hq
  have hk1 : k + 1 ≤ l.length := tk_lt (by rw [← ht, c]; decide)
  have ha1 : RAt r l (k + 1) H H1 := by rw [hH1]; exact ha.set _
  have g12 : H1 r2 = some (.cells [.int .u8 0, .int .u8 0, .int .i64 0, .str [], .nilSlice, .nilSlice, .int .i64 0, .int .i64 0, .int .i64 0] 27) := by rw [hH1]; exact keepU gr2 q2
  simp (disch := omega) only [go_sem, dTok]
  intro r3 hr3; dsimp only at hr3
  have n23 : r2 ≠ r3 := none_ne hr3 g12
  have n3 : r ≠ r3 := none_ne hr3 ha1.get
  have q3 := n3.symm
  have h30 : H r3 = none := ha1.lo hr3
  simp (disch := omega) only [go_sem]
  obtain ⟨Hb, hHb⟩ : ∃ K, K = upd H1 r3 (some (.cells [.int .u8 t.kind, dI t.line, .str t.text, dI t.n] 52)) := ⟨_, rfl⟩
  rw [← hHb]
  have gb3 : Hb r3 = some (.cells [.int .u8 t.kind, dI t.line, .str t.text, dI t.n] 52) := by rw [hHb]; exact upd_same _ _ _
  have gb2 : Hb r2 = some (.cells [.int .u8 0, .int .u8 0, .int .i64 0, .str [], .nilSlice, .nilSlice, .int .i64 0, .int .i64 0, .int .i64 0] 27) := by rw [hHb]; exact keepU g12 n23
  have hab : RAt r l (k + 1) H Hb := by rw [hHb]; exact ha1.new hr3 _
  intro r4 hr4; dsimp only at hr4
  have n24 : r2 ≠ r4 := none_ne hr4 gb2
  have n34 : r3 ≠ r4 := none_ne hr4 gb3
  have n4 : r ≠ r4 := none_ne hr4 hab.get
  have q4 := n4.symm
  simp (disch := omega) only [go_sem, dEx_mk, List.flatMap_nil, List.length_nil]
  obtain ⟨x0, hx0⟩ : ∃ x0, x0 = Ex.mk 3 0 0 t.text [] [] t.line 0 0 := ⟨_, rfl⟩
  have hdx0 : dEx x0 = [.int .u8 3, .int .u8 0, .int .i64 0, .str t.text, .vslice [] 0, .vslice [] 0, .int .i64 t.line, .int .i64 0, .int .i64 0] := by rw [hx0, dEx_mk]; rfl
  rw [← hx0] at hn ⊢
  obtain ⟨n', rfl⟩ : ∃ n', n = n' + 1 := by
   cases n with
   | zero => exact absurd rfl hn
   | succ n' => exact ⟨n', rfl⟩
  obtain ⟨res, hres⟩ : ∃ res, res = (P l (n' + 1)).nameL t.line x0 (k + 1) := ⟨_, rfl⟩
  rw [← hres] at hn ⊢
  have hT : ∀ x k' b o, b ≠ r4 → upd Hb r (some (rdO l k')) b = some o → upd (upd Hb r (some (rdO l k'))) r4 (some (.cells (dEx x) 27)) b = some o := fun x k' b o hb h => by rw [upd_ne _ _ _ _ hb]; exact h
  obtain ⟨I, hI⟩ : ∃ I : Nat × Ex × Nat → (Nat → DVal) → DHeap → Prop, ∀ s env heap, I s env heap ↔ (env 0 = .optr r 0 ∧ env 2 = .optr r2 0 ∧ env 3 = .optr r3 0 ∧ env 4 = .optr r4 0 ∧ s.2.2 ≤ l.length ∧ s.1 ≤ n' ∧ res = (P l (s.1 + 1)).nameL t.line s.2.1 s.2.2 ∧ heap = upd (upd Hb r (some (rdO l s.2.2))) r4 (some (.cells (dEx s.2.1) 27))) := ⟨_, fun _ _ _ => Iff.rfl⟩
  have hat0 : RAt r l (k + 1) Hb (upd Hb r4 (some (.cells [.int .u8 3, .int .u8 0, .int .i64 0, .str t.text, .nilSlice, .nilSlice, .int .i64 t.line, .int .i64 0, .int .i64 0] 27))) := (RAt.refl hab.get).own hr4 q4 _
  refine DLoop.runG I (fun s => s.1) (n', x0, k + 1) ⟨_, upd (upd Hb r (some (rdO l (k + 1)))) r4 (some (.cells (dEx x0) 27))⟩ (GhostS.cell (upd_same _ _ _) hat0 ?_) ((hI _ _ _).2 ?_) ?_
  ·rw [hx0]
   exact Seens.exD (hd_at hat0 (upd_same _ _ _)) (.exs0D (hd_at hat0 (upd_same _ _ _))) (.as0D (hd_at hat0 (upd_same _ _ _)))
  ·simp (disch := omega) only [go_sem]
  ·rintro ⟨m, x, k1⟩ env heap hi'
   obtain ⟨e0, e2, e3, e4, hk1', hm, hr', hh⟩ := (hI _ _ _).1 hi'
   dsimp only at hk1' hm hr' hh
   have eP : (P l (m + 1)).nameL t.line x k1 = if isW l k1 [wDot, wAll] then (P l m).nameL t.line (.mk 5 0 0 [] [x] [] t.line 0 0) (k1 + 2) else if isW l k1 [wDot] then takeN l (k1 + 1) fun s k => (P l m).nameL t.line (.mk 4 0 0 s [x] [] t.line 0 0) k
     else if isW l k1 [wOpen] then ((P l m).arg (k1 + 1)).then fun a k => ((P l m).argsL [a] k).then fun xs k => must l wShut k fun k => (P l m).nameL t.line (.mk 7 0 0 [] [x] xs t.line 0 0) k
     else if isW l k1 [wTick, wOpen] then ((P l m).paren (k1 + 1)).then fun y k => (P l m).nameL t.line (.mk 8 0 0 [] [x, y] [] t.line 0 0) k
     else if isW l k1 [wTick] then takeN l (k1 + 1) fun s k => (P l m).nameL t.line (.mk 6 0 0 s [x] [] t.line 0 0) k else .ok x k1 := rfl
   rw [eP] at hr'
   have hat : RAt r l k1 Hb heap := by rw [hh]; exact ((RAt.refl hab.get).set k1).own hr4 q4 _
   have h4 : heap r4 = some (.cells (dEx x) 27) := by rw [hh]; exact upd_same _ _ _
   have h3 : heap r3 = some (.cells [.int .u8 t.kind, dI t.line, .str t.text, dI t.n] 52) := hat _ _ (by rw [upd_ne _ _ _ _ q3]; exact gb3)
   have hlx := dEx_len x
   simp (disch := omega) only [go_sem, e0, e2, e3, e4, h4, h3]
   rw [cells1Ex hlx]
   simp (disch := omega) only [go_sem, e0, e2, e3, e4, h4, h3]
   intro q hq0; dsimp only at hq0
   have p3 : r3 ≠ q := none_ne hq0 h3
   have p4 : r4 ≠ q := none_ne hq0 h4
   have pr : r ≠ q := none_ne hq0 hat.get
   have hbq : Hb q = none := hat.lo hq0
   simp (disch := omega) only [go_sem, e0, e2, e3, e4, h4, h3, p3, p4]
   intro r5 hr5; dsimp only at hr5
   obtain ⟨m5, m5', hr5'⟩ := upd_eq_none.1 hr5
   have p54 : r4 ≠ r5 := none_ne hr5' h4
   have p5r : r ≠ r5 := none_ne hr5' hat.get
   have hb5 : Hb r5 = none := hat.lo hr5'
   simp (disch := omega) only [go_sem, e0, e2, e3, e4, h4, h3, p3, p4]
   have m5q : q ≠ r5 := by first | exact m5 | exact m5'
   obtain ⟨K1, hK1⟩ : ∃ K, K = upd (upd heap q (some (.cells (dEx x) 27))) r5 (some (.cells [.int .u8 0, .int .u8 0, .int .i64 0, .str [], .oslice 9 q 0 1 1, .nilSlice, .int .i64 t.line, .int .i64 0, .int .i64 0] 27)) := ⟨_, rfl⟩
   rw [← hK1]
   have ha1 : RAt r l k1 Hb K1 := by rw [hK1]; exact (hat.new hq0 _).new hr5 _
   have g15 : K1 r5 = some (.cells [.int .u8 0, .int .u8 0, .int .i64 0, .str [], .oslice 9 q 0 1 1, .nilSlice, .int .i64 t.line, .int .i64 0, .int .i64 0] 27) := by rw [hK1]; exact upd_same _ _ _
   have g1q : K1 q = some (.cells (dEx x) 27) := by rw [hK1]; exact keepU (upd_same _ _ _) m5q
   have g14 : K1 r4 = some (.cells (dEx x) 27) := by rw [hK1]; exact keepU (keepU h4 p4) p54
   have g12' : K1 r2 = some (.cells [.int .u8 0, .int .u8 0, .int .i64 0, .str [], .nilSlice, .nilSlice, .int .i64 0, .int .i64 0, .int .i64 0] 27) := ha1 _ _ (by rw [upd_ne _ _ _ _ q2]; exact gb2)
   intro w1 hw1; dsimp only at hw1
   simp (disch := omega) only [go_sem]
   refine (may2 hG K1 w1 wDot wAll hw1 ha1.get (by omega) (by omega)).mono ?_
   rintro _ H2 ⟨rfl, hH2⟩
   by_cases b1 : isW l k1 [wDot, wAll] = true
   ·rw [if_pos b1] at hH2 hr'
    have hk2 := isW_lt b1 hk1'
    rw [show [wDot, wAll].length = 2 from rfl] at hk2
    have haK : RAt r l (k1 + 2) Hb H2 := by rw [hH2]; exact ha1.set _
    have hH25 : H2 r5 = some (.cells [.int .u8 0, .int .u8 0, .int .i64 0, .str [], .oslice 9 q 0 1 1, .nilSlice, .int .i64 t.line, .int .i64 0, .int .i64 0] 27) := by rw [hH2]; exact keepU g15 p5r.symm
    have hH24 : H2 r4 = some (.cells (dEx x) 27) := by rw [hH2]; exact keepU g14 q4
    have hH2q : H2 q = some (.cells (dEx x) 27) := by rw [hH2]; exact keepU g1q pr.symm
    have hH22 : H2 r2 = some (.cells [.int .u8 0, .int .u8 0, .int .i64 0, .str [], .nilSlice, .nilSlice, .int .i64 0, .int .i64 0, .int .i64 0] 27) := by rw [hH2]; exact keepU g12' q2
    obtain ⟨m', rfl⟩ : ∃ m', m = m' + 1 := by
     cases m with
     | zero => rw [hr'] at hn; exact absurd rfl hn
     | succ m' => exact ⟨m', rfl⟩
    simp (disch := omega) only [go_sem, b1, e0, e2, e3, e4, hH25, hH24, p54]
    have hatf := fun z z' => (haK.own hb5 p5r.symm z).own hr4 q4 z'
    have hqf := fun z z' => keepU (y := z') (keepU (y := z) hH2q m5q) p4.symm
    refine ⟨(m', .mk 5 0 0 [] [x] [] t.line 0 0, k1 + 2), _, GhostS.cell (upd_same _ _ _) (hatf _ _) (seens_name (a := []) (hatf _ _) (upd_same _ _ _) hbq pr.symm p4.symm (hqf _ _) (fun T hd => .as0D hd)), (hI _ _ _).2 ?_, by dsimp only; omega⟩
    simp (disch := omega) only [go_sem, e0, e2, e3, e4]
   ·have b1' : isW l k1 [wDot, wAll] = false := by simpa using b1
    rw [if_neg b1, upd_get ha1.get] at hH2
    rw [if_neg b1] at hr'
    rw [hH2]
    simp (disch := omega) only [go_sem, b1', e0, e2, e3, e4]
    intro w2 hw2; dsimp only at hw2
    simp (disch := omega) only [go_sem]
    refine (may1 hG K1 w2 wDot hw2 ha1.get (by omega) (by omega)).mono ?_
    rintro _ H3 ⟨rfl, hH3⟩
    by_cases b2 : isW l k1 [wDot] = true
    ·rw [if_pos b2] at hH3 hr'
     have hk2 := isW_lt b2 hk1'
     rw [List.length_singleton] at hk2
     have haK : RAt r l (k1 + 1) Hb H3 := by rw [hH3]; exact ha1.set _
     have hH35 : H3 r5 = some (.cells [.int .u8 0, .int .u8 0, .int .i64 0, .str [], .oslice 9 q 0 1 1, .nilSlice, .int .i64 t.line, .int .i64 0, .int .i64 0] 27) := by rw [hH3]; exact keepU g15 p5r.symm
     have hH34 : H3 r4 = some (.cells (dEx x) 27) := by rw [hH3]; exact keepU g14 q4
     have hH3q : H3 q = some (.cells (dEx x) 27) := by rw [hH3]; exact keepU g1q pr.symm
     have hH32 : H3 r2 = some (.cells [.int .u8 0, .int .u8 0, .int .i64 0, .str [], .nilSlice, .nilSlice, .int .i64 0, .int .i64 0, .int .i64 0] 27) := by rw [hH3]; exact keepU g12' q2
     simp (disch := omega) only [go_sem, b2, e0, e2, e3, e4]
     have hbr : ∃ t2, t2 = tk l (k1 + 1) := ⟨_, rfl⟩
     obtain ⟨t2, ht2⟩ := hbr
     unfold takeN at hr'
     refine (take_spec G H3 1 haK.get (by omega) (by omega)).mono ?_
     intro e1 H9 hq9
     rw [← ht2] at hq9 hr'
     by_cases c9 : t2.kind = 1
     ·rw [if_pos c9] at hq9 hr'
      obtain ⟨rfl, hH9⟩ := hq9
      have hk9 : k1 + 2 ≤ l.length := tk_lt (by rw [← ht2, c9]; decide)
      have haL : RAt r l (k1 + 2) Hb H9 := by rw [hH9]; exact haK.set _
      have hH95 : H9 r5 = some (.cells [.int .u8 0, .int .u8 0, .int .i64 0, .str [], .oslice 9 q 0 1 1, .nilSlice, .int .i64 t.line, .int .i64 0, .int .i64 0] 27) := by rw [hH9]; exact keepU hH35 p5r.symm
      have hH94 : H9 r4 = some (.cells (dEx x) 27) := by rw [hH9]; exact keepU hH34 q4
      have hH9q : H9 q = some (.cells (dEx x) 27) := by rw [hH9]; exact keepU hH3q pr.symm
      obtain ⟨m', rfl⟩ : ∃ m', m = m' + 1 := by
       cases m with
       | zero => rw [hr'] at hn; exact absurd rfl hn
       | succ m' => exact ⟨m', rfl⟩
      simp (disch := omega) only [go_sem, dTok, e0, e2, e3, e4, hH95, hH94, p54]
      have hatf := fun z z' => (haL.own hb5 p5r.symm z).own hr4 q4 z'
      have hqf := fun z z' => keepU (y := z') (keepU (y := z) hH9q m5q) p4.symm
      refine ⟨(m', .mk 4 0 0 t2.text [x] [] t.line 0 0, k1 + 2), _, GhostS.cell (upd_same _ _ _) (hatf _ _) (seens_name (a := []) (hatf _ _) (upd_same _ _ _) hbq pr.symm p4.symm (hqf _ _) (fun T hd => .as0D hd)), (hI _ _ _).2 ?_, by dsimp only; omega⟩
      simp (disch := omega) only [go_sem, e0, e2, e3, e4]
     ·rw [if_neg c9] at hq9 hr'
      obtain ⟨rfl, hH9⟩ := hq9
      simp (disch := omega) only [go_sem]
      rw [hr']
      exact RAt.finP (by rw [hH9]; exact RAt.up (haK.set _) hab) ⟨rfl, rfl⟩
    ·have b2' : isW l k1 [wDot] = false := by simpa using b2
     rw [if_neg b2, upd_get ha1.get] at hH3
     rw [if_neg b2] at hr'
     rw [hH3]
     simp (disch := omega) only [go_sem, b2', e0, e2, e3, e4]
     intro w3 hw3; dsimp only at hw3
     simp (disch := omega) only [go_sem]
     refine (may1 hG K1 w3 wOpen hw3 ha1.get (by omega) (by omega)).mono ?_
     rintro _ H4 ⟨rfl, hH4⟩
     by_cases b3 : isW l k1 [wOpen] = true
     ·rw [if_pos b3] at hH4 hr'
      have hk2 := isW_lt b3 hk1'
      rw [List.length_singleton] at hk2
      have haK : RAt r l (k1 + 1) Hb H4 := by rw [hH4]; exact ha1.set _
      have hH45 : H4 r5 = some (.cells [.int .u8 0, .int .u8 0, .int .i64 0, .str [], .oslice 9 q 0 1 1, .nilSlice, .int .i64 t.line, .int .i64 0, .int .i64 0] 27) := by rw [hH4]; exact keepU g15 p5r.symm
      have hH44 : H4 r4 = some (.cells (dEx x) 27) := by rw [hH4]; exact keepU g14 q4
      have hH4q : H4 q = some (.cells (dEx x) 27) := by rw [hH4]; exact keepU g1q pr.symm
      have hH42 : H4 r2 = some (.cells [.int .u8 0, .int .u8 0, .int .i64 0, .str [], .nilSlice, .nilSlice, .int .i64 0, .int .i64 0, .int .i64 0] 27) := by rw [hH4]; exact keepU g12' q2
      simp (disch := omega) only [go_sem, b3, e0, e2, e3, e4]
      have hth : ∀ (a : Res As) (f : As → Nat → Res (List As)) (g : List As → Nat → Res Ex), (a.then fun x k => (f x k).then g) = (a.then f).then g := fun a f g => by cases a <;> rfl
      rw [hth] at hr'
      have hargs := args_spec hG hl m (fun i hi => hga i (by omega)) H4 (k1 + 1) haK.get hk2
      dsimp only at hargs
      cases hcc : (((P l m).arg (k1 + 1)).then fun a k => (P l m).argsL [a] k) with
      | bot => rw [hcc, then_bot] at hr'; rw [hr'] at hn; exact absurd rfl hn
      | fail k3 =>
       rw [hcc] at hargs
       rw [hcc, then_fail] at hr'
       refine (hargs (mp_ne (by simp))).mono ?_
       rintro e H7 ⟨rfl, hH7⟩
       simp (disch := omega) only [go_sem]
       rw [hr']
       exact RAt.finP (by rw [hH7]; exact RAt.up (haK.set _) hab) ⟨rfl, rfl⟩
      | ok xs k3 =>
       rw [hcc] at hargs
       rw [hcc, then_ok] at hr'
       have hk3 : k3 ≤ l.length := by
        have := adv_then ((P_adv (l := l) m).arg (k1 + 1) hk2) (fun a j h1 h2 => adv_less ((P_adv (l := l) m).argsL [a] j h2) h1)
        rw [hcc] at this
        exact this.2
       refine (hargs (mp_ne (by simp))).mono ?_
       rintro e H7 ⟨rfl, hH7⟩
       have ha7 : RAt r l k3 Hb H7 := by rw [hH7]; exact haK.set _
       have hH75 : H7 r5 = some (.cells [.int .u8 0, .int .u8 0, .int .i64 0, .str [], .oslice 9 q 0 1 1, .nilSlice, .int .i64 t.line, .int .i64 0, .int .i64 0] 27) := by rw [hH7]; exact keepU hH45 p5r.symm
       have hH74 : H7 r4 = some (.cells (dEx x) 27) := by rw [hH7]; exact keepU hH44 q4
       have hH7q : H7 q = some (.cells (dEx x) 27) := by rw [hH7]; exact keepU hH4q pr.symm
       simp (disch := omega) only [go_sem, dAl, e0, e2, e3, e4, hH75]
       obtain ⟨H8, hH8⟩ : ∃ K, K = upd H7 r5 (some (.cells [.int .u8 7, .int .u8 0, .int .i64 0, .str [], .oslice 9 q 0 1 1, .vslice (xs.flatMap dAs) xs.length, .int .i64 t.line, .int .i64 0, .int .i64 0] 27)) := ⟨_, rfl⟩
       rw [← hH8]
       have ha8 : RAt r l k3 Hb H8 := by rw [hH8]; exact ha7.own hb5 p5r.symm _
       have g85 : H8 r5 = some (.cells [.int .u8 7, .int .u8 0, .int .i64 0, .str [], .oslice 9 q 0 1 1, .vslice (xs.flatMap dAs) xs.length, .int .i64 t.line, .int .i64 0, .int .i64 0] 27) := by rw [hH8]; exact upd_same _ _ _
       have g84 : H8 r4 = some (.cells (dEx x) 27) := by rw [hH8]; exact keepU hH74 p54
       have g8q : H8 q = some (.cells (dEx x) 27) := by rw [hH8]; exact keepU hH7q m5q
       refine (must_spec hG H8 wShut ha8.get (by omega) (by omega)).mono ?_
       intro e1 H9 hq9
       unfold must at hq9 hr'
       by_cases c9 : isW l k3 [wShut] = true
       ·rw [if_pos c9] at hq9 hr'
        obtain ⟨rfl, hH9⟩ := hq9
        have hk9 := isW_lt c9 hk3
        rw [List.length_singleton] at hk9
        have haL : RAt r l (k3 + 1) Hb H9 := by rw [hH9]; exact ha8.set _
        have g95 : H9 r5 = some (.cells [.int .u8 7, .int .u8 0, .int .i64 0, .str [], .oslice 9 q 0 1 1, .vslice (xs.flatMap dAs) xs.length, .int .i64 t.line, .int .i64 0, .int .i64 0] 27) := by rw [hH9]; exact keepU g85 p5r.symm
        have g94 : H9 r4 = some (.cells (dEx x) 27) := by rw [hH9]; exact keepU g84 q4
        have g9q : H9 q = some (.cells (dEx x) 27) := by rw [hH9]; exact keepU g8q pr.symm
        dsimp only at hr'
        obtain ⟨m', rfl⟩ : ∃ m', m = m' + 1 := by
         cases m with
         | zero => rw [hr'] at hn; exact absurd rfl hn
         | succ m' => exact ⟨m', rfl⟩
        simp (disch := omega) only [go_sem, e0, e2, e3, e4, g95, g94, p54]
        have hatf := fun z' => haL.own hr4 q4 z'
        have hqf := fun z' => keepU (y := z') g9q p4.symm
        refine ⟨(m', .mk 7 0 0 [] [x] xs t.line 0 0, k3 + 1), _, GhostS.cell (upd_same _ _ _) (hatf _) (seens_name (a := xs) (hatf _) (upd_same _ _ _) hbq pr.symm p4.symm (hqf _) (fun T hd => Seen.keepD hd _)), (hI _ _ _).2 ?_, by dsimp only; omega⟩
        simp (disch := omega) only [go_sem, e0, e2, e3, e4]
       ·rw [if_neg c9] at hq9 hr'
        obtain ⟨rfl, hH9⟩ := hq9
        simp (disch := omega) only [go_sem]
        rw [hr']
        exact RAt.finP (by rw [hH9]; exact RAt.up (ha8.set _) hab) ⟨rfl, rfl⟩
     ·have b3' : isW l k1 [wOpen] = false := by simpa using b3
      rw [if_neg b3, upd_get ha1.get] at hH4
      rw [if_neg b3] at hr'
      rw [hH4]
      simp (disch := omega) only [go_sem, b3', e0, e2, e3, e4]
      intro w4 hw4; dsimp only at hw4
      simp (disch := omega) only [go_sem]
      refine (is2 hG K1 w4 wTick wOpen hw4 ha1.get (by omega) (by omega)).mono ?_
      rintro _ H5 ⟨rfl, hH5⟩
      rw [hH5]
      by_cases b4 : isW l k1 [wTick, wOpen] = true
      ·rw [if_pos b4] at hr'
       have hk2 := isW_lt b4 hk1'
       rw [show [wTick, wOpen].length = 2 from rfl] at hk2
       have gr := ha1.get
       unfold rdO at gr
       have hw1' : IntKind.i64.wrap ((k1 : Int) + 1) = ((k1 + 1 : Nat) : Int) := by rw [IntKind.wrap_i64]; omega
       simp (disch := omega) only [go_sem, b4, e0, e2, e3, e4, gr, hw1']
       obtain ⟨H6, hH6⟩ : ∃ H6, H6 = upd K1 r (some (rdO l (k1 + 1))) := ⟨_, rfl⟩
       have hH6' := hH6
       unfold rdO at hH6'
       rw [← hH6']
       have haK : RAt r l (k1 + 1) Hb H6 := by rw [hH6]; exact ha1.set _
       have hH65 : H6 r5 = some (.cells [.int .u8 0, .int .u8 0, .int .i64 0, .str [], .oslice 9 q 0 1 1, .nilSlice, .int .i64 t.line, .int .i64 0, .int .i64 0] 27) := by rw [hH6]; exact keepU g15 p5r.symm
       have hH64 : H6 r4 = some (.cells (dEx x) 27) := by rw [hH6]; exact keepU g14 q4
       have hH6q : H6 q = some (.cells (dEx x) 27) := by rw [hH6]; exact keepU g1q pr.symm
       have hH62 : H6 r2 = some (.cells [.int .u8 0, .int .u8 0, .int .i64 0, .str [], .nilSlice, .nilSlice, .int .i64 0, .int .i64 0, .int .i64 0] 27) := by rw [hH6]; exact keepU g12' q2
       refine dwp_draws (by kernel_rfl) (.take 0 (.take 1 (.take 2 (.take 6 (.go 3 [1] (.go 4 [1] (.go 5 [] (.go 7 [] (.take 8 (.go 9 [] .done)))))))))) (by kernel_rfl) ?_
       simp (disch := omega) only [go_sem, e0, e2, e3, e4, hH65]
       have hpp := hgp m (by omega) H6 (k1 + 1) haK.get (by omega)
       have had := (P_adv (l := l) m).paren (k1 + 1) (by omega)
       dsimp only at hpp
       cases hcc : (P l m).paren (k1 + 1) with
       | bot => rw [hcc, then_bot] at hr'; rw [hr'] at hn; exact absurd rfl hn
       | fail k3 =>
        rw [hcc] at hpp
        rw [hcc, then_fail] at hr'
        refine (hpp (mp_ne (by simp))).mono ?_
        rintro e H7 ⟨rfl, hH7⟩
        simp (disch := omega) only [go_sem]
        rw [hr']
        exact RAt.finP (by rw [hH7]; exact RAt.up (haK.set _) hab) ⟨rfl, rfl⟩
       | ok y k3 =>
        rw [hcc] at hpp had
        rw [hcc, then_ok] at hr'
        dsimp only [Adv] at had
        refine (hpp (mp_ne (by simp))).mono ?_
        rintro e H7 ⟨rfl, hH7⟩
        have ha7 : RAt r l k3 Hb H7 := by rw [hH7]; exact haK.set _
        have hH75 : H7 r5 = some (.cells [.int .u8 0, .int .u8 0, .int .i64 0, .str [], .oslice 9 q 0 1 1, .nilSlice, .int .i64 t.line, .int .i64 0, .int .i64 0] 27) := by rw [hH7]; exact keepU hH65 p5r.symm
        have hH74 : H7 r4 = some (.cells (dEx x) 27) := by rw [hH7]; exact keepU hH64 q4
        have hH7q : H7 q = some (.cells (dEx x) 27) := by rw [hH7]; exact keepU hH6q pr.symm
        have hly := dEx_len y
        simp (disch := omega) only [go_sem, dE, e0, e2, e3, e4, hH65, hH75]
        rw [cells1Ex hly]
        simp (disch := omega) only [go_sem, e0, e2, e3, e4, hH65, hH75]
        intro r8 hr8; dsimp only at hr8
        have p8 : q ≠ r8 := none_ne hr8 hH7q
        have p85 : r5 ≠ r8 := none_ne hr8 hH75
        simp (disch := omega) only [go_sem, e0, e2, e3, e4, hH65, hH75, p85]
        rw [if_neg p8, hH7q]
        obtain ⟨Bq, hBq⟩ : ∃ K, K = upd H7 q none := ⟨_, rfl⟩
        have hsB : Sub Bq H7 := by
         rw [hBq]
         intro b o hb
         simp only [upd] at hb
         split at hb
         ·cases hb
         ·exact hb
        have haB : RAt r l k3 Hb Bq := by rw [hBq]; exact ha7.own hbq pr.symm none
        have hB5 : Bq r5 = some (.cells [.int .u8 0, .int .u8 0, .int .i64 0, .str [], .oslice 9 q 0 1 1, .nilSlice, .int .i64 t.line, .int .i64 0, .int .i64 0] 27) := by rw [hBq]; exact keepU hH75 m5q.symm
        have hB4 : Bq r4 = some (.cells (dEx x) 27) := by rw [hBq]; exact keepU hH74 p4
        have hv0 : OwnJ Bq 27 9 1 (dEx x) (.oslice 9 q 0 1 1) H7 := .inr ⟨q, by rw [hBq]; exact upd_same _ _ _, by rw [hlx], rfl, hH7q, hsB⟩
        refine OwnJ.appendO (m := 1) (hv0.new hr8 _) hly (by omega) fun v2 H10 hv2 => ?_
        have g105 := hv2.keep hB5
        have g104 := hv2.keep hB4
        obtain ⟨j1, j2⟩ := hv2.cell1
        obtain ⟨m', rfl⟩ : ∃ m', m = m' + 1 := by
         cases m with
         | zero => rw [hr'] at hn; exact absurd rfl hn
         | succ m' => exact ⟨m', rfl⟩
        simp (disch := omega) only [go_sem, e0, e2, e3, e4, g105, g104, p54, j1, j2]
        have hv3 := fun z z' => (hv2.at hB5 (some z)).at (r := r4) (by rw [upd_ne _ _ _ _ p54]; exact hB4) (some z')
        have haf := fun z z' => (haB.own hb5 p5r.symm (some z)).own hr4 q4 (some z')
        refine ⟨(m', .mk 8 0 0 [] [x, y] [] t.line 0 0, k3), _, GhostS.cell (upd_same _ _ _) (Sub.trans (haf _ _) (hv3 _ _).sub) (seens_qual (Sub.trans (haf _ _) (hv3 _ _).sub) (upd_same _ _ _) (haf _ _) (by rw [upd_same]; simp) (by rw [show [x, y].flatMap dEx = dEx x ++ dEx y by simp]; exact hv3 _ _)), (hI _ _ _).2 ?_, by dsimp only; omega⟩
        simp (disch := omega) only [go_sem, e0, e2, e3, e4]
      ·have b4' : isW l k1 [wTick, wOpen] = false := by simpa using b4
       rw [if_neg b4] at hr'
       simp (disch := omega) only [go_sem, b4', e0, e2, e3, e4]
       intro w5 hw5; dsimp only at hw5
       simp (disch := omega) only [go_sem]
       refine (may1 hG K1 w5 wTick hw5 ha1.get (by omega) (by omega)).mono ?_
       rintro _ H6 ⟨rfl, hH6⟩
       by_cases b5 : isW l k1 [wTick] = true
       ·rw [if_pos b5] at hH6 hr'
        have hk2 := isW_lt b5 hk1'
        rw [List.length_singleton] at hk2
        have haK : RAt r l (k1 + 1) Hb H6 := by rw [hH6]; exact ha1.set _
        have hH65 : H6 r5 = some (.cells [.int .u8 0, .int .u8 0, .int .i64 0, .str [], .oslice 9 q 0 1 1, .nilSlice, .int .i64 t.line, .int .i64 0, .int .i64 0] 27) := by rw [hH6]; exact keepU g15 p5r.symm
        have hH64 : H6 r4 = some (.cells (dEx x) 27) := by rw [hH6]; exact keepU g14 q4
        have hH6q : H6 q = some (.cells (dEx x) 27) := by rw [hH6]; exact keepU g1q pr.symm
        have hH62 : H6 r2 = some (.cells [.int .u8 0, .int .u8 0, .int .i64 0, .str [], .nilSlice, .nilSlice, .int .i64 0, .int .i64 0, .int .i64 0] 27) := by rw [hH6]; exact keepU g12' q2
        simp (disch := omega) only [go_sem, b5, e0, e2, e3, e4]
        have hbr : ∃ t2, t2 = tk l (k1 + 1) := ⟨_, rfl⟩
        obtain ⟨t2, ht2⟩ := hbr
        unfold takeN at hr'
        refine (take_spec G H6 1 haK.get (by omega) (by omega)).mono ?_
        intro e1 H9 hq9
        rw [← ht2] at hq9 hr'
        by_cases c9 : t2.kind = 1
        ·rw [if_pos c9] at hq9 hr'
         obtain ⟨rfl, hH9⟩ := hq9
         have hk9 : k1 + 2 ≤ l.length := tk_lt (by rw [← ht2, c9]; decide)
         have haL : RAt r l (k1 + 2) Hb H9 := by rw [hH9]; exact haK.set _
         have hH95 : H9 r5 = some (.cells [.int .u8 0, .int .u8 0, .int .i64 0, .str [], .oslice 9 q 0 1 1, .nilSlice, .int .i64 t.line, .int .i64 0, .int .i64 0] 27) := by rw [hH9]; exact keepU hH65 p5r.symm
         have hH94 : H9 r4 = some (.cells (dEx x) 27) := by rw [hH9]; exact keepU hH64 q4
         have hH9q : H9 q = some (.cells (dEx x) 27) := by rw [hH9]; exact keepU hH6q pr.symm
         obtain ⟨m', rfl⟩ : ∃ m', m = m' + 1 := by
          cases m with
          | zero => rw [hr'] at hn; exact absurd rfl hn
          | succ m' => exact ⟨m', rfl⟩
         simp (disch := omega) only [go_sem, dTok, e0, e2, e3, e4, hH95, hH94, p54]
         have hatf := fun z z' => (haL.own hb5 p5r.symm z).own hr4 q4 z'
         have hqf := fun z z' => keepU (y := z') (keepU (y := z) hH9q m5q) p4.symm
         refine ⟨(m', .mk 6 0 0 t2.text [x] [] t.line 0 0, k1 + 2), _, GhostS.cell (upd_same _ _ _) (hatf _ _) (seens_name (a := []) (hatf _ _) (upd_same _ _ _) hbq pr.symm p4.symm (hqf _ _) (fun T hd => .as0D hd)), (hI _ _ _).2 ?_, by dsimp only; omega⟩
         simp (disch := omega) only [go_sem, e0, e2, e3, e4]
        ·rw [if_neg c9] at hq9 hr'
         obtain ⟨rfl, hH9⟩ := hq9
         simp (disch := omega) only [go_sem]
         rw [hr']
         exact RAt.finP (by rw [hH9]; exact RAt.up (haK.set _) hab) ⟨rfl, rfl⟩
       ·have b5' : isW l k1 [wTick] = false := by simpa using b5
        rw [if_neg b5, upd_get ha1.get] at hH6
        rw [if_neg b5] at hr'
        rw [hH6]
        have hox := dEx_one x
        simp (disch := omega) only [go_sem, b5', e0, e2, e3, e4, g14, g12', hlx, hox]
        rw [hr']
        exact RAt.fin ((RAt.up ha1 hab).own hr2 q2 _) ⟨rfl, rfl⟩
 ·rw [if_neg c] at hn hq ⊢
  obtain ⟨rfl, hH1⟩ := hq
  simp (disch := omega) only [go_sem]
  exact RAt.finP (by rw [hH1]; exact ha.set k) ⟨rfl, rfl⟩
end
end Go.Dl

-- Chapter 3: the package's reader: all its functions together.
namespace Go.Dl
open Go Go.Proofs
set_option maxRecDepth 100000
section
variable {G : Nat → DVal} {r : Nat} {l : List Tok}
structure RdAll (G : Nat → DVal) (l : List Tok) (r : Nat) (m : Nat) : Prop where
 expr : RdC Tryz.prog G l 62 r fun k => ((P l m).expr k).mp dE
 rest : ∀ x, RdC1 Tryz.prog G l 118 r (.agg (dEx x)) fun k => ((P l m).rest x k).mp dE
 relation : ∀ x, RdC1 Tryz.prog G l 64 r (.agg (dEx x)) fun k => ((P l m).relation x k).mp dE
 simple : RdC Tryz.prog G l 65 r fun k => ((P l m).simple k).mp dE
 term : RdC Tryz.prog G l 66 r fun k => ((P l m).term k).mp dE
 factor : RdC Tryz.prog G l 67 r fun k => ((P l m).factor k).mp dE
 primary : RdC Tryz.prog G l 68 r fun k => ((P l m).primary k).mp dE
 paren : RdC Tryz.prog G l 127 r fun k => ((P l m).paren k).mp dE
 assoc : RdC Tryz.prog G l 177 r fun k => ((P l m).assoc k).mp dA
 choice : RdC Tryz.prog G l 161 r fun k => ((P l m).choice k).mp dC
 arg : RdC Tryz.prog G l 157 r fun k => ((P l m).arg k).mp dA
 name : RdC Tryz.prog G l 69 r fun k => ((P l m).name k).mp dE
theorem rd_all (hG : GX G) (hl : l.length ≤ 800000) : ∀ n m, m ≤ n → RdAll G l r m := by
 intro n
 induction n with
 | zero =>
  intro m hm
  have : m = 0 := by omega
  subst this
  constructor <;> intros <;> intro H k _ _ hn <;> exact absurd rfl hn
 | succ n ih =>
  intro m hm
  rcases Nat.lt_or_ge m (n + 1) with h | h
  ·exact ih m (by omega)
  ·have : m = n + 1 := by omega
   subst this
   have h0 := ih n (Nat.le_refl _)
   exact ⟨expr_step hl _ (P_adv n) h0.simple h0.rest, rest_step hG hl n (fun m hm => (ih m hm).simple) (fun m hm => (ih m hm).relation), relation_step hG hl _ (P_adv n) h0.simple,
    simple_step hG hl n (fun m hm => (ih m hm).term), term_step hG hl n (fun m hm => (ih m hm).factor), factor_step hG hl _ (P_adv n) h0.primary, primary_step hG hl _ h0.paren h0.name,
    paren_step hG hl n h0.expr (fun m hm => (ih m hm).assoc), rdAssoc_step hG hl n (fun m hm => (ih m hm).choice) h0.expr, choice_step hG hl _ (P_adv n) h0.simple h0.rest, argument_step hG hl _ h0.expr,
    name_step hG hl n (fun m hm => (ih m hm).arg) (fun m hm => (ih m hm).paren)⟩
theorem rd_at (hG : GX G) (hl : l.length ≤ 800000) (m : Nat) : RdAll G l r m := rd_all hG hl m m (Nat.le_refl _)
end
end Go.Dl

-- Chapter 3: the package's read: what a panic of reading told becomes the error.
namespace Go.Dl
open Go Go.Proofs
set_option maxRecDepth 100000
section
variable {G : Nat → DVal} {l : List Tok}
def readE : Res Ex → DVal
 | .ok x k => .tuple [dE x, dI k, dI 0]
 | .fail k => .tuple [dE ex0, dI k, dI 30]
 | .bot => .nilPtr
set_option maxHeartbeats 4000000 in
theorem readE_spec (hG : GX G) (H : DHeap) (hl : l.length ≤ 800000) (g : FuncId) (res : Res Ex) (hn : res ≠ .bot) (hf : ∀ r H, H r = some (rdO l 0) → DCalls Tryz.prog G g [.optr r 0] H (RdR r l H (res.mp dE))) :
  DCalls Tryz.prog G 70 [dToks l, .func (.func g) [] []] H (DRet (readE res) H) := by
 refine dcalls_late Tryz.func70 Tryz.func130 Tryz.call70 Tryz.call130 rfl rfl (by kernel_rfl) (by kernel_rfl) rfl ?_
 simp (disch := omega) only [go_sem]
 intro r4 hr4; dsimp only at hr4
 simp (disch := omega) only [go_sem]
 intro r5 hr5; dsimp only at hr5
 obtain ⟨m45, m54, hr5'⟩ := upd_eq_none.1 hr5
 simp (disch := omega) only [go_sem]
 intro r6 hr6; dsimp only at hr6
 have a5 : upd (upd H r4 (some (.cells [.int .u8 0, .int .u8 0, .int .i64 0, .str [], .nilSlice, .nilSlice, .int .i64 0, .int .i64 0, .int .i64 0] 27))) r5 (some (.cells [dI 0] 3)) r5 = some (.cells [dI 0] 3) := upd_same _ _ _
 have a4 : upd (upd H r4 (some (.cells [.int .u8 0, .int .u8 0, .int .i64 0, .str [], .nilSlice, .nilSlice, .int .i64 0, .int .i64 0, .int .i64 0] 27))) r5 (some (.cells [dI 0] 3)) r4 = some (.cells [.int .u8 0, .int .u8 0, .int .i64 0, .str [], .nilSlice, .nilSlice, .int .i64 0, .int .i64 0, .int .i64 0] 27) := keepU (upd_same _ _ _) (none_ne hr5 (upd_same _ _ _))
 have n56 : r5 ≠ r6 := none_ne hr6 a5
 have n46 : r4 ≠ r6 := none_ne hr6 a4
 have n45 : r4 ≠ r5 := none_ne hr5 (upd_same _ _ _)
 have hdc : (dToks l).cells = [dToks l] := rfl
 simp (disch := omega) only [go_sem, hdc, List.length_cons, List.length_nil, List.drop_succ_cons, List.drop_zero, List.cons_append, List.nil_append]
 intro r7 hr7; dsimp only at hr7
 have n47 : r4 ≠ r7 := none_ne hr7 (keepU a4 n46)
 have n57 : r5 ≠ r7 := none_ne hr7 (keepU a5 n56)
 have n67 : r6 ≠ r7 := none_ne hr7 (upd_same _ _ _)
 have hr6' : H r6 = none := ((((Sub.refl H).new hr4 _).new hr5 _).lo hr6)
 have hr7' : H r7 = none := (((((Sub.refl H).new hr4 _).new hr5 _).new hr6 _).lo hr7)
 have n74 := n47.symm
 have n75 := n57.symm
 have n76 := n67.symm
 have n64 := n46.symm
 have n65 := n56.symm
 simp (disch := omega) only [go_sem]
 refine (hf r7 _ (upd_same _ _ _)).mono ?_
 intro e H5 hq
 have g4 : ∀ z, upd (upd (upd (upd (upd H r4 (some (.cells [.int .u8 0, .int .u8 0, .int .i64 0, .str [], .nilSlice, .nilSlice, .int .i64 0, .int .i64 0, .int .i64 0] 27))) r5 (some (.cells [dI 0] 3))) r6 (some (.cells [dI 0] 29))) r7 (some (rdO l 0))) r7 z r4 = some (.cells [.int .u8 0, .int .u8 0, .int .i64 0, .str [], .nilSlice, .nilSlice, .int .i64 0, .int .i64 0, .int .i64 0] 27) := fun z => by
  rw [upd_ne _ _ _ _ n47, upd_ne _ _ _ _ n47, upd_ne _ _ _ _ n46]; exact a4
 cases hres : res with
 | bot => exact absurd hres hn
 | ok x k =>
  rw [hres] at hq
  obtain ⟨rfl, hH5⟩ := hq
  have hlx := dEx_len x
  have hox := dEx_one x
  have g54 : H5 r4 = some (.cells [.int .u8 0, .int .u8 0, .int .i64 0, .str [], .nilSlice, .nilSlice, .int .i64 0, .int .i64 0, .int .i64 0] 27) := by rw [hH5]; exact g4 _
  have g55 : H5 r5 = some (.cells [dI 0] 3) := by rw [hH5, upd_ne _ _ _ _ n57, upd_ne _ _ _ _ n57, upd_ne _ _ _ _ n56]; exact a5
  have g56 : H5 r6 = some (.cells [dI 0] 29) := by rw [hH5, upd_ne _ _ _ _ n67, upd_ne _ _ _ _ n67]; exact upd_same _ _ _
  have g57 : H5 r7 = some (.cells [dToks l, dI k] 139) := by rw [hH5]; exact upd_same _ _ _
  have hs5 : Sub H H5 := by rw [hH5]; exact ((((((Sub.refl H).new hr4 _).new hr5 _).new hr6 _).new hr7 _).up hr7' _)
  simp (disch := omega) only [go_sem, dE, g54, hlx, hox]
  refine dwp_draws (by kernel_rfl) (.take 0 (.take 1 (.take 2 (.take 3 (.take 4 (.go 5 [4] (.go 6 [] (.go 7 [] .done)))))))) (by kernel_rfl) ?_
  simp (disch := omega) only [go_sem, g54, g55, g56, g57, n45, n46, n47, n56, n57, n67, m45, n74, n75, n76, n64, n65, hlx, hox]
  intro r8 hr8; dsimp only at hr8
  obtain ⟨K, hK⟩ : ∃ K, K = upd (upd (upd H5 r4 (some (.cells (dEx x) 27))) r5 (some (.cells [dI k] 3))) r6 (some (.cells [dI 0] 29)) := ⟨_, rfl⟩
  have hsK : Sub H K := by rw [hK]; exact ((hs5.up hr4 _).up hr5' _).up hr6' _
  have k4 : K r4 = some (.cells (dEx x) 27) := by rw [hK]; exact keepU (keepU (upd_same _ _ _) n45) n46
  have k5 : K r5 = some (.cells [dI k] 3) := by rw [hK]; exact keepU (upd_same _ _ _) n56
  have k6 : K r6 = some (.cells [dI 0] 29) := by rw [hK]; exact upd_same _ _ _
  rw [← hK] at hr8 ⊢
  have n48 : r4 ≠ r8 := none_ne hr8 k4
  have n58 : r5 ≠ r8 := none_ne hr8 k5
  have n68 : r6 ≠ r8 := none_ne hr8 k6
  simp (disch := omega) only [go_sem, k4, k5, k6, n48, n58, n68, hlx, hox]
  exact DFin.sub (hsK.new hr8 _) (.refl ⟨rfl, rfl⟩)
 | fail k =>
  rw [hres] at hq
  obtain ⟨rfl, hH5⟩ := hq
  have g54 : H5 r4 = some (.cells [.int .u8 0, .int .u8 0, .int .i64 0, .str [], .nilSlice, .nilSlice, .int .i64 0, .int .i64 0, .int .i64 0] 27) := by rw [hH5]; exact g4 _
  have g55 : H5 r5 = some (.cells [dI 0] 3) := by rw [hH5, upd_ne _ _ _ _ n57, upd_ne _ _ _ _ n57, upd_ne _ _ _ _ n56]; exact a5
  have g56 : H5 r6 = some (.cells [dI 0] 29) := by rw [hH5, upd_ne _ _ _ _ n67, upd_ne _ _ _ _ n67]; exact upd_same _ _ _
  have hs5 : Sub H H5 := by rw [hH5]; exact ((((((Sub.refl H).new hr4 _).new hr5 _).new hr6 _).new hr7 _).up hr7' _)
  simp (disch := omega) only [go_sem, dWrong]
  intro r8 hr8; dsimp only at hr8
  have n48 : r4 ≠ r8 := none_ne hr8 g54
  have n58 : r5 ≠ r8 := none_ne hr8 g55
  have n68 : r6 ≠ r8 := none_ne hr8 g56
  simp (disch := omega) only [go_sem, g54, g55, g56, n48, n58, n68, n45, n46, n56, m45, n64, n65]
  have hsK := fun x y z => (((hs5.new hr8 x).up hr5' y).up hr6' z)
  exact Seen.fin (hsK _ _ _) (Seen.tuple (.cons (Seen.agg (Seen.ex (l := []) (a := []) (hsK _ _ _) (.exs0 (hsK _ _ _)) (.as0 (hsK _ _ _)))) (Seens.keep (hsK _ _ _) _))) ⟨rfl, rfl⟩
end
end Go.Dl

-- Chapter 3: expressions: the plain laws, part 4: with enough fuel reading comes to an answer; then it needs no fuel.
namespace Go.Dl
open Go
set_option maxRecDepth 10000
section
variable {l : List Tok}
theorem then_ne {α β : Type} {a : Nat} {r : Res α} {f : α → Nat → Res β} (h : r ≠ .bot) (ha : Adv l a r) (k : ∀ x n, a ≤ n → n ≤ l.length → f x n ≠ .bot) : r.then f ≠ .bot := by
 cases r with
 | bot => exact absurd rfl h
 | fail n => intro e; cases e
 | ok x n => exact k x n ha.1 ha.2
theorem ok_ne {α : Type} {x : α} {k : Nat} : (Res.ok x k) ≠ .bot := fun e => by cases e
theorem fail_ne {α : Type} {k : Nat} : (Res.fail k : Res α) ≠ .bot := fun e => by cases e
theorem must_ne {α : Type} {s : List UInt8} {k : Nat} {f : Nat → Res α} (hk : k ≤ l.length) (h : k + 1 ≤ l.length → f (k + 1) ≠ .bot) : must l s k f ≠ .bot := by
 unfold must
 split
 ·rename_i hw
  exact h (isW_lt hw hk)
 ·exact fail_ne
theorem takeN_ne {α : Type} {k : Nat} {f : List UInt8 → Nat → Res α} (h : k + 1 ≤ l.length → ∀ s, f s (k + 1) ≠ .bot) : takeN l k f ≠ .bot := by
 unfold takeN
 split
 ·rename_i hw
  exact h (tk_lt (by rw [hw]; decide)) _
 ·exact fail_ne
structure PS.Tot (l : List Tok) (n : Nat) (p : PS) : Prop where
 expr : ∀ k, k ≤ l.length → 8 * (l.length - k) + 6 ≤ n → p.expr k ≠ .bot
 rest : ∀ x k, k ≤ l.length → 8 * (l.length - k) + 2 ≤ n → p.rest x k ≠ .bot
 restL : ∀ o x k, k ≤ l.length → 8 * (l.length - k) + 1 ≤ n → p.restL o x k ≠ .bot
 relation : ∀ x k, k ≤ l.length → 8 * (l.length - k) + 1 ≤ n → p.relation x k ≠ .bot
 simple : ∀ k, k ≤ l.length → 8 * (l.length - k) + 5 ≤ n → p.simple k ≠ .bot
 addL : ∀ x k, k ≤ l.length → 8 * (l.length - k) + 1 ≤ n → p.addL x k ≠ .bot
 term : ∀ k, k ≤ l.length → 8 * (l.length - k) + 4 ≤ n → p.term k ≠ .bot
 mulL : ∀ x k, k ≤ l.length → 8 * (l.length - k) + 1 ≤ n → p.mulL x k ≠ .bot
 factor : ∀ k, k ≤ l.length → 8 * (l.length - k) + 3 ≤ n → p.factor k ≠ .bot
 primary : ∀ k, k ≤ l.length → 8 * (l.length - k) + 2 ≤ n → p.primary k ≠ .bot
 paren : ∀ k, k ≤ l.length → 8 * (l.length - k) + 1 ≤ n → p.paren k ≠ .bot
 assoc : ∀ k, k ≤ l.length → 8 * (l.length - k) + 7 ≤ n → p.assoc k ≠ .bot
 assocsL : ∀ a k, k ≤ l.length → 8 * (l.length - k) + 1 ≤ n → p.assocsL a k ≠ .bot
 choice : ∀ k, k ≤ l.length → 8 * (l.length - k) + 6 ≤ n → p.choice k ≠ .bot
 choicesL : ∀ a k, k ≤ l.length → 8 * (l.length - k) + 1 ≤ n → p.choicesL a k ≠ .bot
 arg : ∀ k, k ≤ l.length → 8 * (l.length - k) + 7 ≤ n → p.arg k ≠ .bot
 argsL : ∀ a k, k ≤ l.length → 8 * (l.length - k) + 1 ≤ n → p.argsL a k ≠ .bot
 name : ∀ k, k ≤ l.length → 8 * (l.length - k) + 1 ≤ n → p.name k ≠ .bot
 nameL : ∀ i x k, k ≤ l.length → 8 * (l.length - k) + 1 ≤ n → p.nameL i x k ≠ .bot
theorem stepP_tot {p : PS} {n : Nat} (h : p.Tot l n) (ha : p.Adv l) : (stepP l p).Tot l (n + 1) where
 expr k hk hn := then_ne (h.simple k hk (by omega)) (ha.simple k hk) fun x m h1 h2 => h.rest x m h2 (by omega)
 rest x k hk hn := then_ne (h.relation x k hk (by omega)) (ha.relation x k hk) fun x m h1 h2 => h.restL _ x m h2 (by omega)
 restL o x k hk hn := by
  dsimp only [stepP]
  split
  ·exact ok_ne
  ·obtain ⟨q1, q2, q3, q4⟩ := opF_adv (want := o) ops_ok.1 hk
   split
   ·exact ok_ne
   ·rename_i hq
    have := q2 hq
    exact then_ne (h.simple _ q3 (by omega)) (ha.simple _ q3) fun y n h1 h2 => then_ne (h.relation y n h2 (by omega)) (ha.relation y n h2) fun z m h3 h4 => h.restL _ _ m h4 (by omega)
 relation x k hk hn := by
  dsimp only [stepP]
  obtain ⟨q1, q2, q3, q4⟩ := opF_adv (want := 0) ops_ok.2.1 hk
  have hin : ∀ kind j, k + 1 ≤ j → j ≤ l.length → inK l x kind j p ≠ .bot := fun kind j h1 h2 => by
   refine then_ne (h.simple j h2 (by omega)) (ha.simple j h2) fun y m h3 h4 => ?_
   split
   ·rename_i hw
    have := isW_lt hw h4
    have := this
    simp only [List.length_cons, List.length_nil] at this
    exact then_ne (h.simple (m + 1) (by omega) (by omega)) (ha.simple (m + 1) (by omega)) fun z m _ _ => ok_ne
   ·split
    ·exact ok_ne
    ·exact fail_ne
  split
  ·rename_i hq
   have := q2 hq
   exact then_ne (h.simple _ q3 (by omega)) (ha.simple _ q3) fun y n h1 h2 => ok_ne
  ·split
   ·rename_i hw
    have := isW_lt hw hk
    simp only [List.length_cons, List.length_nil] at this
    exact hin _ _ (by omega) (by omega)
   ·split
    ·rename_i hw
     have := isW_lt hw hk
     simp only [List.length_cons, List.length_nil] at this
     exact hin _ _ (by omega) (by omega)
    ·exact ok_ne
 simple k hk hn := by
  obtain ⟨q1, q2, q3, q4⟩ := opF_adv (want := 0) ops_ok.2.2.1 hk
  exact then_ne (h.term _ q3 (by omega)) (ha.term _ q3) fun x n h1 h2 => h.addL _ n h2 (by omega)
 addL x k hk hn := by
  dsimp only [stepP]
  obtain ⟨q1, q2, q3, q4⟩ := opF_adv (want := 0) ops_ok.2.2.2.1 hk
  split
  ·exact ok_ne
  ·rename_i hq
   have := q2 hq
   exact then_ne (h.term _ q3 (by omega)) (ha.term _ q3) fun x n h1 h2 => h.addL _ n h2 (by omega)
 term k hk hn := then_ne (h.factor k hk (by omega)) (ha.factor k hk) fun x n h1 h2 => h.mulL _ n h2 (by omega)
 mulL x k hk hn := by
  dsimp only [stepP]
  obtain ⟨q1, q2, q3, q4⟩ := opF_adv (want := 0) ops_ok.2.2.2.2.1 hk
  split
  ·exact ok_ne
  ·rename_i hq
   have := q2 hq
   exact then_ne (h.factor _ q3 (by omega)) (ha.factor _ q3) fun x n h1 h2 => h.mulL _ n h2 (by omega)
 factor k hk hn := by
  obtain ⟨q1, q2, q3, q4⟩ := opF_adv (want := 0) ops_ok.2.2.2.2.2 hk
  exact then_ne (h.primary _ q3 (by omega)) (ha.primary _ q3) fun x n h1 h2 => ok_ne
 primary k hk hn := by
  dsimp only [stepP]
  split
  ·exact ok_ne
  ·split
   ·exact ok_ne
   ·split
    ·exact h.paren k hk (by omega)
    ·exact h.name k hk (by omega)
 paren k hk hn := by
  dsimp only [stepP]
  refine must_ne hk fun hk1 => ?_
  split
  ·rename_i hw
   have := isW_lt hw hk1
   simp only [List.length_cons, List.length_nil] at this
   refine then_ne (h.expr _ this (by omega)) (ha.expr _ this) fun a n1 h1 h2 => must_ne h2 fun h3 => then_ne (h.expr _ h3 (by omega)) (ha.expr _ h3) fun b n2 h4 h5 => must_ne h5 fun h6 => then_ne (h.expr _ h6 (by omega)) (ha.expr _ h6) fun c n3 h7 h8 => must_ne h8 fun h9 => ok_ne
  ·exact then_ne (h.assoc _ hk1 (by omega)) (ha.assoc _ hk1) fun a n1 h1 h2 => then_ne (h.assocsL _ _ h2 (by omega)) (ha.assocsL _ _ h2) fun az n2 h3 h4 => must_ne h4 fun h5 => ok_ne
 assoc k hk hn := by
  refine then_ne (h.choice k hk (by omega)) (ha.choice k hk) fun c n h1 h2 => ?_
  split
  ·exact ok_ne
  ·split
   ·exact must_ne h2 fun h3 => then_ne (h.expr _ h3 (by omega)) (ha.expr _ h3) fun e m h4 h5 => ok_ne
   ·exact then_ne (h.choicesL _ _ h2 (by omega)) (ha.choicesL _ _ h2) fun cs m h3 h4 => must_ne h4 fun h5 => then_ne (h.expr _ h5 (by omega)) (ha.expr _ h5) fun e m h6 h7 => ok_ne
 assocsL az k hk hn := by
  dsimp only [stepP]
  split
  ·rename_i hw
   have := isW_lt hw hk
   simp only [List.length_cons, List.length_nil] at this
   exact then_ne (h.assoc _ this (by omega)) (ha.assoc _ this) fun a n h1 h2 => h.assocsL _ n h2 (by omega)
  ·exact ok_ne
 choice k hk hn := by
  dsimp only [stepP]
  split
  ·exact ok_ne
  ·refine then_ne (h.simple k hk (by omega)) (ha.simple k hk) fun x n h1 h2 => ?_
   split
   ·rename_i hw
    have := isW_lt hw h2
    simp only [List.length_cons, List.length_nil] at this
    exact then_ne (h.simple _ this (by omega)) (ha.simple _ this) fun y m h3 h4 => ok_ne
   ·exact then_ne (h.rest x n h2 (by omega)) (ha.rest x n h2) fun y m h3 h4 => ok_ne
 choicesL az k hk hn := by
  dsimp only [stepP]
  split
  ·rename_i hw
   have := isW_lt hw hk
   simp only [List.length_cons, List.length_nil] at this
   exact then_ne (h.choice _ this (by omega)) (ha.choice _ this) fun a n h1 h2 => h.choicesL _ n h2 (by omega)
  ·exact ok_ne
 arg k hk hn := by
  dsimp only [stepP]
  split
  ·rename_i hw
   have h1 := tk_lt (l := l) (k := k) (by rw [hw.1]; decide)
   have := isW_lt hw.2 h1
   simp only [List.length_cons, List.length_nil] at this
   exact then_ne (h.expr _ this (by omega)) (ha.expr _ this) fun y m h3 h4 => ok_ne
  ·exact then_ne (h.expr k hk (by omega)) (ha.expr k hk) fun y m h3 h4 => ok_ne
 argsL az k hk hn := by
  dsimp only [stepP]
  split
  ·rename_i hw
   have := isW_lt hw hk
   simp only [List.length_cons, List.length_nil] at this
   exact then_ne (h.arg _ this (by omega)) (ha.arg _ this) fun a n h1 h2 => h.argsL _ n h2 (by omega)
  ·exact ok_ne
 name k hk hn := takeN_ne fun h1 s => h.nameL _ _ _ h1 (by omega)
 nameL i x k hk hn := by
  dsimp only [stepP]
  split
  ·rename_i hw
   have := isW_lt hw hk
   simp only [List.length_cons, List.length_nil] at this
   exact h.nameL _ _ _ (by omega) (by omega)
  ·split
   ·rename_i hw
    have := isW_lt hw hk
    simp only [List.length_cons, List.length_nil] at this
    exact takeN_ne fun h1 s => h.nameL _ _ _ h1 (by omega)
   ·split
    ·rename_i hw
     have := isW_lt hw hk
     simp only [List.length_cons, List.length_nil] at this
     exact then_ne (h.arg _ this (by omega)) (ha.arg _ this) fun a n h1 h2 => then_ne (h.argsL _ _ h2 (by omega)) (ha.argsL _ _ h2) fun az m h3 h4 => must_ne h4 fun h5 => h.nameL _ _ _ h5 (by omega)
    ·split
     ·rename_i hw
      have := isW_lt hw hk
      simp only [List.length_cons, List.length_nil] at this
      exact then_ne (h.paren _ (by omega) (by omega)) (ha.paren _ (by omega)) fun a n h1 h2 => h.nameL _ _ _ h2 (by omega)
     ·split
      ·rename_i hw
       have := isW_lt hw hk
       simp only [List.length_cons, List.length_nil] at this
       exact takeN_ne fun h1 s => h.nameL _ _ _ h1 (by omega)
      ·exact ok_ne
theorem P_tot : ∀ n, (P l n).Tot l n
 | 0 => by constructor <;> intros <;> omega
 | n + 1 => stepP_tot (P_tot n) (P_adv n)
def fuel (l : List Tok) : Nat := 8 * l.length + 20
def Q (l : List Tok) : PS := P l (fuel l)
theorem le_eq {α : Type} {r r' : Res α} (h : r.Le r') (hn : r ≠ .bot) : r' = r := by
 rcases h with h | h
 ·exact absurd h hn
 ·exact h.symm
structure PS.Fix (l : List Tok) (p : PS) : Prop where
 expr : ∀ k, k ≤ l.length → p.expr k = (stepP l p).expr k
 rest : ∀ x k, k ≤ l.length → p.rest x k = (stepP l p).rest x k
 restL : ∀ o x k, k ≤ l.length → p.restL o x k = (stepP l p).restL o x k
 relation : ∀ x k, k ≤ l.length → p.relation x k = (stepP l p).relation x k
 simple : ∀ k, k ≤ l.length → p.simple k = (stepP l p).simple k
 addL : ∀ x k, k ≤ l.length → p.addL x k = (stepP l p).addL x k
 term : ∀ k, k ≤ l.length → p.term k = (stepP l p).term k
 mulL : ∀ x k, k ≤ l.length → p.mulL x k = (stepP l p).mulL x k
 factor : ∀ k, k ≤ l.length → p.factor k = (stepP l p).factor k
 primary : ∀ k, k ≤ l.length → p.primary k = (stepP l p).primary k
 paren : ∀ k, k ≤ l.length → p.paren k = (stepP l p).paren k
 assoc : ∀ k, k ≤ l.length → p.assoc k = (stepP l p).assoc k
 assocsL : ∀ a k, k ≤ l.length → p.assocsL a k = (stepP l p).assocsL a k
 choice : ∀ k, k ≤ l.length → p.choice k = (stepP l p).choice k
 choicesL : ∀ a k, k ≤ l.length → p.choicesL a k = (stepP l p).choicesL a k
 arg : ∀ k, k ≤ l.length → p.arg k = (stepP l p).arg k
 argsL : ∀ a k, k ≤ l.length → p.argsL a k = (stepP l p).argsL a k
 name : ∀ k, k ≤ l.length → p.name k = (stepP l p).name k
 nameL : ∀ i x k, k ≤ l.length → p.nameL i x k = (stepP l p).nameL i x k
theorem Q_tot : (Q l).Tot l (fuel l) := P_tot _
theorem Q_adv : (Q l).Adv l := P_adv _
theorem Q_fix : (Q l).Fix l := by
 have h : (Q l).Le (stepP l (Q l)) := P_succ_le _
 have t := Q_tot (l := l)
 have f : ∀ k, 8 * (l.length - k) + 7 ≤ fuel l := fun k => by unfold fuel; omega
 have f' : ∀ {k a : Nat}, a ≤ 7 → 8 * (l.length - k) + a ≤ fuel l := fun {k a} ha => by have := f k; omega
 exact ⟨fun k hk => (le_eq (h.expr k) (t.expr k hk (f' (by omega)))).symm,
  fun x k hk => (le_eq (h.rest x k) (t.rest x k hk (f' (by omega)))).symm,
  fun o x k hk => (le_eq (h.restL o x k) (t.restL o x k hk (f' (by omega)))).symm,
  fun x k hk => (le_eq (h.relation x k) (t.relation x k hk (f' (by omega)))).symm,
  fun k hk => (le_eq (h.simple k) (t.simple k hk (f' (by omega)))).symm,
  fun x k hk => (le_eq (h.addL x k) (t.addL x k hk (f' (by omega)))).symm,
  fun k hk => (le_eq (h.term k) (t.term k hk (f' (by omega)))).symm,
  fun x k hk => (le_eq (h.mulL x k) (t.mulL x k hk (f' (by omega)))).symm,
  fun k hk => (le_eq (h.factor k) (t.factor k hk (f' (by omega)))).symm,
  fun k hk => (le_eq (h.primary k) (t.primary k hk (f' (by omega)))).symm,
  fun k hk => (le_eq (h.paren k) (t.paren k hk (f' (by omega)))).symm,
  fun k hk => (le_eq (h.assoc k) (t.assoc k hk (f' (by omega)))).symm,
  fun x k hk => (le_eq (h.assocsL x k) (t.assocsL x k hk (f' (by omega)))).symm,
  fun k hk => (le_eq (h.choice k) (t.choice k hk (f' (by omega)))).symm,
  fun x k hk => (le_eq (h.choicesL x k) (t.choicesL x k hk (f' (by omega)))).symm,
  fun k hk => (le_eq (h.arg k) (t.arg k hk (f' (by omega)))).symm,
  fun x k hk => (le_eq (h.argsL x k) (t.argsL x k hk (f' (by omega)))).symm,
  fun k hk => (le_eq (h.name k) (t.name k hk (f' (by omega)))).symm,
  fun i x k hk => (le_eq (h.nameL i x k) (t.nameL i x k hk (f' (by omega)))).symm⟩
end
end Go.Dl

-- Chapter 3: expressions: the plain laws, part 5: the tokens of an expression.
namespace Go.Dl
open Go
set_option maxRecDepth 10000
def wTok (s : List UInt8) : Tok := ⟨kindW s, 0, s, 0⟩
def nmTok (s : List UInt8) : Tok := ⟨1, 0, s, 0⟩
def inTok (n : Int) : Tok := ⟨3, 0, [], n⟩
def parT (b : Bool) (t : List Tok) : List Tok := if b then wTok wOpen :: (t ++ [wTok wShut]) else t
def sepT (s : List UInt8) : List (List Tok) → List Tok
 | [] => []
 | [x] => x
 | x :: r => x ++ wTok s :: sepT s r
def leastM (e : Ex) : Int := if levelE e = 2 then 3 else 5
def leastL (e : Ex) : Int := if levelE e = 1 then 2 else if levelE e = 0 ∧ ((e.l.getD 0 ex0).kind ≠ 12 ∨ (e.l.getD 0 ex0).oper ≠ e.oper) then 1 else levelE e
def leastR (e : Ex) : Int := if levelE e = 1 then 2 else levelE e + 1
def bareK (k : Int) : Bool := decide (k = 9) || decide (k = 10)
def formE (e : Ex) (tl ta : List (List Tok)) : List Tok :=
 let p := fun (i : Nat) (lv : Int) => parT (decide (levelE (e.l.getD i ex0) < lv)) (tl.getD i [])
 if e.kind = 1 then [inTok e.n] else if e.kind = 2 then [wTok wNull] else if e.kind = 3 then [nmTok e.s]
 else if e.kind = 4 then tl.getD 0 [] ++ [wTok wDot, nmTok e.s]
 else if e.kind = 5 then tl.getD 0 [] ++ [wTok wDot, wTok wAll]
 else if e.kind = 6 then tl.getD 0 [] ++ [wTok wTick, nmTok e.s]
 else if e.kind = 7 then tl.getD 0 [] ++ wTok wOpen :: (sepT wComma ta ++ [wTok wShut])
 else if e.kind = 8 then tl.getD 0 [] ++ wTok wTick :: parT (!bareK (e.l.getD 1 ex0).kind) (tl.getD 1 [])
 else if e.kind = 9 then wTok wOpen :: (sepT wComma ta ++ [wTok wShut])
 else if e.kind = 10 then wTok wOpen :: wTok wIf :: (tl.getD 0 [] ++ wTok wThen :: (tl.getD 1 [] ++ wTok wElse :: (tl.getD 2 [] ++ [wTok wShut])))
 else if e.kind = 11 then (wordsN e.oper.toNat).map wTok ++ p 0 (leastM e)
 else if e.kind = 12 then p 0 (leastL e) ++ ((wordsN e.oper.toNat).map wTok ++ p 1 (leastR e))
 else if e.kind = 13 then p 0 2 ++ wTok wIn :: (if e.l.length = 3 then p 1 2 ++ wTok wDots :: p 2 2 else tl.getD 1 [])
 else p 0 2 ++ wTok wNot :: wTok wIn :: (if e.l.length = 3 then p 1 2 ++ wTok wDots :: p 2 2 else tl.getD 1 [])
def formC (k : Int) (l : List Ex) (tl : List (List Tok)) : List Tok :=
 let p := fun (i : Nat) (lv : Int) => parT (decide (levelE (l.getD i ex0) < lv)) (tl.getD i [])
 if k = 1 then tl.getD 0 [] else if k = 2 then p 0 2 ++ wTok wDots :: p 1 2 else [wTok wOthers]
def formA (tc : List (List Tok)) (te : List Tok) : List Tok := if tc.isEmpty then te else sepT wBar tc ++ wTok wArrow :: te
mutual
def toksE : Ex → List Tok
 | .mk k o n s l a li en t => formE (.mk k o n s l a li en t) (toksLE l) (toksAs a)
def toksLE : List Ex → List (List Tok)
 | [] => []
 | x :: l => toksE x :: toksLE l
def toksA : As → List Tok
 | .mk c e => formA (toksCs c) (toksE e)
def toksAs : List As → List (List Tok)
 | [] => []
 | x :: l => toksA x :: toksAs l
def toksC : Ch → List Tok
 | .mk k l => formC k l (toksLE l)
def toksCs : List Ch → List (List Tok)
 | [] => []
 | x :: l => toksC x :: toksCs l
end
theorem toksLE_map : ∀ l : List Ex, toksLE l = l.map toksE
 | [] => rfl
 | x :: l => by rw [toksLE, toksLE_map l, List.map_cons]
theorem toksAs_map : ∀ l : List As, toksAs l = l.map toksA
 | [] => rfl
 | x :: l => by rw [toksAs, toksAs_map l, List.map_cons]
theorem toksCs_map : ∀ l : List Ch, toksCs l = l.map toksC
 | [] => rfl
 | x :: l => by rw [toksCs, toksCs_map l, List.map_cons]
theorem toksE_eq (e : Ex) : toksE e = formE e (e.l.map toksE) (e.a.map toksA) := by
 cases e; rw [toksE, toksLE_map, toksAs_map]; rfl
theorem toksA_eq (x : As) : toksA x = if x.c.isEmpty then toksE x.e else sepT wBar (x.c.map toksC) ++ wTok wArrow :: toksE x.e := by
 cases x with
 | mk c e => rw [toksA, toksCs_map, formA]; cases c <;> rfl
def partE (e : Ex) (lv : Int) : List Tok := parT (decide (levelE e < lv)) (toksE e)
theorem getD_map {α β : Type} (f : α → β) (l : List α) (i : Nat) (d : α) (e : β) (h : i < l.length) : (l.map f).getD i e = f (l.getD i d) := by
 simp [List.getD, List.getElem?_map, List.getElem?_eq_getElem h]
theorem toksC_eq (c : Ch) : toksC c = if c.kind = 1 then (c.l.map toksE).getD 0 [] else if c.kind = 2 then parT (decide (levelE (c.l.getD 0 ex0) < 2)) ((c.l.map toksE).getD 0 []) ++ wTok wDots :: parT (decide (levelE (c.l.getD 1 ex0) < 2)) ((c.l.map toksE).getD 1 []) else [wTok wOthers] := by
 cases c; rw [toksC, toksLE_map]; rfl
def tE (e : Ex) (i : Nat) : List Tok := (e.l.map toksE).getD i []
def pE (e : Ex) (i : Nat) (lv : Int) : List Tok := parT (decide (levelE (e.l.getD i ex0) < lv)) (tE e i)
def tailE (e : Ex) : List Tok := if e.l.length = 3 then pE e 1 2 ++ wTok wDots :: pE e 2 2 else tE e 1
def taE (e : Ex) : List Tok := sepT wComma (e.a.map toksA)
section
variable {e : Ex}
theorem toks1 (h : e.kind = 1) : toksE e = [inTok e.n] := by rw [toksE_eq]; unfold formE; rw [h]; rfl
theorem toks2 (h : e.kind = 2) : toksE e = [wTok wNull] := by rw [toksE_eq]; unfold formE; rw [h]; rfl
theorem toks3 (h : e.kind = 3) : toksE e = [nmTok e.s] := by rw [toksE_eq]; unfold formE; rw [h]; rfl
theorem toks4 (h : e.kind = 4) : toksE e = tE e 0 ++ [wTok wDot, nmTok e.s] := by rw [toksE_eq]; unfold formE; rw [h]; rfl
theorem toks5 (h : e.kind = 5) : toksE e = tE e 0 ++ [wTok wDot, wTok wAll] := by rw [toksE_eq]; unfold formE; rw [h]; rfl
theorem toks6 (h : e.kind = 6) : toksE e = tE e 0 ++ [wTok wTick, nmTok e.s] := by rw [toksE_eq]; unfold formE; rw [h]; rfl
theorem toks7 (h : e.kind = 7) : toksE e = tE e 0 ++ wTok wOpen :: (taE e ++ [wTok wShut]) := by rw [toksE_eq]; unfold formE; rw [h]; rfl
theorem toks8 (h : e.kind = 8) : toksE e = tE e 0 ++ wTok wTick :: parT (!bareK (e.l.getD 1 ex0).kind) (tE e 1) := by rw [toksE_eq]; unfold formE; rw [h]; rfl
theorem toks9 (h : e.kind = 9) : toksE e = wTok wOpen :: (taE e ++ [wTok wShut]) := by rw [toksE_eq]; unfold formE; rw [h]; rfl
theorem toks10 (h : e.kind = 10) : toksE e = wTok wOpen :: wTok wIf :: (tE e 0 ++ wTok wThen :: (tE e 1 ++ wTok wElse :: (tE e 2 ++ [wTok wShut]))) := by rw [toksE_eq]; unfold formE; rw [h]; rfl
theorem toks11 (h : e.kind = 11) : toksE e = (wordsN e.oper.toNat).map wTok ++ pE e 0 (leastM e) := by rw [toksE_eq]; unfold formE; rw [h]; rfl
theorem toks12 (h : e.kind = 12) : toksE e = pE e 0 (leastL e) ++ ((wordsN e.oper.toNat).map wTok ++ pE e 1 (leastR e)) := by rw [toksE_eq]; unfold formE; rw [h]; rfl
theorem toks13 (h : e.kind = 13) : toksE e = pE e 0 2 ++ wTok wIn :: tailE e := by rw [toksE_eq]; unfold formE; rw [h]; rfl
theorem toks14 (h : e.kind = 14) : toksE e = pE e 0 2 ++ wTok wNot :: wTok wIn :: tailE e := by rw [toksE_eq]; unfold formE; rw [h]; rfl
theorem tE_at {i : Nat} (h : i < e.l.length) : tE e i = toksE (e.l.getD i ex0) := getD_map toksE e.l i ex0 [] h
theorem pE_at {i : Nat} (h : i < e.l.length) (lv : Int) : pE e i lv = partE (e.l.getD i ex0) lv := by rw [pE, tE_at h]; rfl
end
theorem kind_word {s : List UInt8} : kindW s ≠ 1 ∧ kindW s ≠ 3 ∧ kindW s ≠ 0 := by
 unfold kindW; split <;> decide
theorem sepT_cons (s : List UInt8) (x : List Tok) (r : List (List Tok)) (h : r ≠ []) : sepT s (x :: r) = x ++ wTok s :: sepT s r := by
 cases r with
 | nil => exact absurd rfl h
 | cons y r => rfl
theorem sepT_snoc (s : List UInt8) : ∀ (l : List (List Tok)) (x : List Tok), l ≠ [] → sepT s (l ++ [x]) = sepT s l ++ wTok s :: x
 | [], _, h => absurd rfl h
 | [y], x, _ => rfl
 | y :: z :: r, x, _ => by
  rw [List.cons_append, sepT_cons s y _ (by simp), sepT_snoc s (z :: r) x (by simp), sepT_cons s y (z :: r) (by simp)]
  simp
end Go.Dl

-- Chapter 3: expressions: the plain laws, part 6: what was read ends with a token that ends an expression; reading sees no token behind it.
namespace Go.Dl
open Go
set_option maxRecDepth 10000
section
variable {l : List Tok}
def Good (l : List Tok) (n : Nat) : Prop := ∀ k, k + 1 = n → isW l k [wAnd] = false ∧ isW l k [wOr] = false
theorem isW1 {k : Nat} {s : List UInt8} : isW l k [s] = (decide ((tk l k).kind = kindW s) && decide ((tk l k).text = s)) := by rw [isW, isW, Bool.and_true]
theorem isW2 {k : Nat} {s t : List UInt8} : isW l k [s, t] = (isW l k [s] && isW l (k + 1) [t]) := by rw [isW, isW1 (s := s), isW1 (s := t)]
theorem isW1_ne {k : Nat} {s t : List UInt8} (h : isW l k [s] = true) (hs : s ≠ t) : isW l k [t] = false := by
 rw [isW1, Bool.and_eq_true, decide_eq_true_eq, decide_eq_true_eq] at h
 rw [isW1, h.2, decide_eq_false hs, Bool.and_false]
theorem good_word {k : Nat} {s : List UInt8} (h : isW l k [s] = true) (h1 : s ≠ wAnd) (h2 : s ≠ wOr) : Good l (k + 1) := fun j hj => by
 have : j = k := by omega
 subst this
 exact ⟨isW1_ne h h1, isW1_ne h h2⟩
theorem good_kind {k : Nat} (h : (tk l k).kind ≠ 2) : Good l (k + 1) := fun j hj => by
 have : j = k := by omega
 subst this
 have e1 : kindW wAnd = 2 := by decide +kernel
 have e2 : kindW wOr = 2 := by decide +kernel
 exact ⟨by rw [isW1, e1, decide_eq_false h, Bool.false_and], by rw [isW1, e2, decide_eq_false h, Bool.false_and]⟩
def PS1 (l : List Tok) {α : Type} (k : Nat) (r : Res α) : Prop := Adv l (k + 1) r ∧ ∀ x k', r = .ok x k' → Good l k'
def PE (l : List Tok) {α : Type} (k : Nat) (r : Res α) : Prop := Adv l k r ∧ ∀ x k', r = .ok x k' → k < k' → Good l k'
theorem ps1_pe {α : Type} {k j : Nat} {r : Res α} (h : PS1 l k r) (hj : j ≤ k) : PE l j r := ⟨adv_less h.1 (by omega), fun x k' e _ => h.2 x k' e⟩
theorem ps1_less {α : Type} {k j : Nat} {r : Res α} (h : PS1 l k r) (hj : j ≤ k) : PS1 l j r := ⟨adv_less h.1 (by omega), fun x k' e => h.2 x k' e⟩
theorem ps1_then {α β : Type} {k : Nat} {r : Res α} {f : α → Nat → Res β} (h : PS1 l k r) (hf : ∀ x k1, k + 1 ≤ k1 → k1 ≤ l.length → PE l k1 (f x k1)) : PS1 l k (r.then f) := by
 refine ⟨adv_then h.1 fun x n h1 h2 => adv_less (hf x n h1 h2).1 (by omega), fun y k' e => ?_⟩
 cases r with
 | bot => cases e
 | fail n => cases e
 | ok x n =>
  have g := hf x n h.1.1 h.1.2
  change f x n = .ok y k' at e
  have g2 := g.1
  rw [e] at g2
  rcases Nat.lt_or_ge n k' with hl | hl
  ·exact g.2 y k' e hl
  ·have : k' = n := Nat.le_antisymm hl g2.1
   subst this
   exact h.2 x _ rfl
theorem pe_then {α β : Type} {k : Nat} {r : Res α} {f : α → Nat → Res β} (h : PE l k r) (hf : ∀ x k1, k ≤ k1 → k1 ≤ l.length → PE l k1 (f x k1)) : PE l k (r.then f) := by
 refine ⟨adv_then h.1 fun x n h1 h2 => adv_less (hf x n h1 h2).1 (by omega), fun y k' e hk => ?_⟩
 cases r with
 | bot => cases e
 | fail n => cases e
 | ok x n =>
  have g := hf x n h.1.1 h.1.2
  change f x n = .ok y k' at e
  have g2 := g.1
  rw [e] at g2
  rcases Nat.lt_or_ge n k' with hl | hl
  ·exact g.2 y k' e hl
  ·have : k' = n := Nat.le_antisymm hl g2.1
   subst this
   exact h.2 x _ rfl hk
theorem pe_ok {α : Type} {x : α} {k : Nat} (hk : k ≤ l.length) : PE l k (.ok x k) := ⟨adv_ok (Nat.le_refl _) hk, fun y k' e h => by cases e; omega⟩
theorem ps1_ok {α : Type} {x : α} {k : Nat} (hk : k + 1 ≤ l.length) (h : Good l (k + 1)) : PS1 l k (.ok x (k + 1)) := ⟨adv_ok (Nat.le_refl _) hk, fun y k' e => by cases e; exact h⟩
theorem ps1_fail {α : Type} {k j : Nat} (hk : j ≤ l.length) : PS1 l k (.fail j : Res α) := ⟨hk, fun y k' e => by cases e⟩
theorem pe_fail {α : Type} {k j : Nat} (hk : j ≤ l.length) : PE l k (.fail j : Res α) := ⟨hk, fun y k' e => by cases e⟩
theorem ps1_must {α : Type} {s : List UInt8} {k : Nat} {f : Nat → Res α} (hk : k ≤ l.length) (h : k + 1 ≤ l.length → PS1 l (k + 1) (f (k + 1))) : PS1 l k (must l s k f) := by
 unfold must
 split
 ·rename_i hw
  exact ps1_less (h (isW_lt hw hk)) (by omega)
 ·exact ps1_fail hk
theorem ps1_mustE {α : Type} {s : List UInt8} {k : Nat} {f : Nat → Res α} (hk : k ≤ l.length) (h1 : s ≠ wAnd) (h2 : s ≠ wOr) (h : k + 1 ≤ l.length → PE l (k + 1) (f (k + 1))) : PS1 l k (must l s k f) := by
 unfold must
 split
 ·rename_i hw
  have hf := h (isW_lt hw hk)
  refine ⟨hf.1, fun x k' e => ?_⟩
  have := hf.1
  rw [e] at this
  rcases Nat.lt_or_ge (k + 1) k' with hl | hl
  ·exact hf.2 x k' e hl
  ·have : k' = k + 1 := Nat.le_antisymm hl this.1
   subst this
   exact good_word hw h1 h2
 ·exact ps1_fail hk
theorem ps1_take {α : Type} {k : Nat} {f : List UInt8 → Nat → Res α} (hk : k ≤ l.length) (h : k + 1 ≤ l.length → ∀ s, PE l (k + 1) (f s (k + 1))) : PS1 l k (takeN l k f) := by
 unfold takeN
 split
 ·rename_i hw
  have hf := h (tk_lt (by rw [hw]; decide)) (tk l k).text
  refine ⟨hf.1, fun x k' e => ?_⟩
  have := hf.1
  rw [e] at this
  rcases Nat.lt_or_ge (k + 1) k' with hl | hl
  ·exact hf.2 x k' e hl
  ·have : k' = k + 1 := Nat.le_antisymm hl this.1
   subst this
   exact good_kind (by rw [hw]; decide)
 ·exact ps1_fail hk
structure PS.End (l : List Tok) (p : PS) : Prop where
 expr : ∀ k, k ≤ l.length → PS1 l k (p.expr k)
 rest : ∀ x k, k ≤ l.length → PE l k (p.rest x k)
 restL : ∀ o x k, k ≤ l.length → PE l k (p.restL o x k)
 relation : ∀ x k, k ≤ l.length → PE l k (p.relation x k)
 simple : ∀ k, k ≤ l.length → PS1 l k (p.simple k)
 addL : ∀ x k, k ≤ l.length → PE l k (p.addL x k)
 term : ∀ k, k ≤ l.length → PS1 l k (p.term k)
 mulL : ∀ x k, k ≤ l.length → PE l k (p.mulL x k)
 factor : ∀ k, k ≤ l.length → PS1 l k (p.factor k)
 primary : ∀ k, k ≤ l.length → PS1 l k (p.primary k)
 paren : ∀ k, k ≤ l.length → PS1 l k (p.paren k)
 assoc : ∀ k, k ≤ l.length → PS1 l k (p.assoc k)
 assocsL : ∀ a k, k ≤ l.length → PE l k (p.assocsL a k)
 choice : ∀ k, k ≤ l.length → PS1 l k (p.choice k)
 choicesL : ∀ a k, k ≤ l.length → PE l k (p.choicesL a k)
 arg : ∀ k, k ≤ l.length → PS1 l k (p.arg k)
 argsL : ∀ a k, k ≤ l.length → PE l k (p.argsL a k)
 name : ∀ k, k ≤ l.length → PS1 l k (p.name k)
 nameL : ∀ i x k, k ≤ l.length → PE l k (p.nameL i x k)
theorem stepP_end {p : PS} (h : p.End l) : (stepP l p).End l where
 expr k hk := ps1_then (h.simple k hk) fun x n h1 h2 => h.rest x n h2
 rest x k hk := pe_then (h.relation x k hk) fun x n h1 h2 => h.restL _ x n h2
 restL o x k hk := by
  dsimp only [stepP]
  split
  ·exact pe_ok hk
  ·obtain ⟨q1, q2, q3, q4⟩ := opF_adv (want := o) ops_ok.1 hk
   split
   ·exact pe_ok hk
   ·exact ps1_pe (ps1_then (h.simple _ q3) fun y n h1 h2 => pe_then (h.relation y n h2) fun z m h3 h4 => h.restL _ _ m h4) q4
 relation x k hk := by
  dsimp only [stepP]
  obtain ⟨q1, q2, q3, q4⟩ := opF_adv (want := 0) ops_ok.2.1 hk
  have hin : ∀ kind j, k ≤ j → j ≤ l.length → PE l k (inK l x kind j p) := fun kind j h1 h2 => by
   refine ps1_pe (ps1_then (h.simple j h2) fun y m h3 h4 => ?_) h1
   split
   ·rename_i hw
    have := isW_lt hw h4
    simp only [List.length_cons, List.length_nil] at this
    exact ps1_pe (ps1_then (h.simple (m + 1) (by omega)) fun z m _ h => pe_ok h) (by omega)
   ·split
    ·exact pe_ok h4
    ·exact pe_fail h4
  split
  ·exact ps1_pe (ps1_then (h.simple _ q3) fun y n h1 h2 => pe_ok h2) q4
  ·split
   ·rename_i hw
    have := isW_lt hw hk
    simp only [List.length_cons, List.length_nil] at this
    exact hin _ _ (by omega) (by omega)
   ·split
    ·rename_i hw
     have := isW_lt hw hk
     simp only [List.length_cons, List.length_nil] at this
     exact hin _ _ (by omega) (by omega)
    ·exact pe_ok hk
 simple k hk := by
  obtain ⟨q1, q2, q3, q4⟩ := opF_adv (want := 0) ops_ok.2.2.1 hk
  exact ps1_less (ps1_then (h.term _ q3) fun x n h1 h2 => h.addL _ n h2) q4
 addL x k hk := by
  dsimp only [stepP]
  obtain ⟨q1, q2, q3, q4⟩ := opF_adv (want := 0) ops_ok.2.2.2.1 hk
  split
  ·exact pe_ok hk
  ·exact ps1_pe (ps1_then (h.term _ q3) fun x n h1 h2 => h.addL _ n h2) q4
 term k hk := ps1_then (h.factor k hk) fun x n h1 h2 => h.mulL _ n h2
 mulL x k hk := by
  dsimp only [stepP]
  obtain ⟨q1, q2, q3, q4⟩ := opF_adv (want := 0) ops_ok.2.2.2.2.1 hk
  split
  ·exact pe_ok hk
  ·exact ps1_pe (ps1_then (h.factor _ q3) fun x n h1 h2 => h.mulL _ n h2) q4
 factor k hk := by
  obtain ⟨q1, q2, q3, q4⟩ := opF_adv (want := 0) ops_ok.2.2.2.2.2 hk
  exact ps1_less (ps1_then (h.primary _ q3) fun x n h1 h2 => pe_ok h2) q4
 primary k hk := by
  dsimp only [stepP]
  split
  ·rename_i hq
   exact ps1_ok (tk_lt (by rw [hq]; decide)) (good_kind (by rw [hq]; decide))
  ·split
   ·rename_i hw
    exact ps1_ok (isW_lt hw hk) (good_word hw (by decide) (by decide))
   ·split
    ·exact h.paren k hk
    ·exact h.name k hk
 paren k hk := by
  dsimp only [stepP]
  refine ps1_must hk fun hk1 => ?_
  split
  ·rename_i hw
   have := isW_lt hw hk1
   simp only [List.length_cons, List.length_nil] at this
   refine ps1_less (ps1_then (h.expr _ this) fun a n1 h1 h2 => ps1_pe (ps1_must h2 fun h3 => ps1_then (h.expr _ h3) fun b n2 h4 h5 => ps1_pe (ps1_must h5 fun h6 => ps1_then (h.expr _ h6) fun c n3 h7 h8 => ps1_pe (ps1_mustE h8 (by decide) (by decide) fun h9 => pe_ok h9) (Nat.le_refl _)) (Nat.le_refl _)) (Nat.le_refl _)) (by omega)
  ·exact ps1_then (h.assoc _ hk1) fun a n1 h1 h2 => pe_then (h.assocsL _ _ h2) fun az n2 h3 h4 => ps1_pe (ps1_mustE h4 (by decide) (by decide) fun h5 => pe_ok h5) (Nat.le_refl _)
 assoc k hk := by
  refine ps1_then (h.choice k hk) fun c n h1 h2 => ?_
  split
  ·exact pe_ok h2
  ·split
   ·exact ps1_pe (ps1_must h2 fun h3 => ps1_then (h.expr _ h3) fun e m h4 h5 => pe_ok h5) (Nat.le_refl _)
   ·exact pe_then (h.choicesL _ _ h2) fun cs m h3 h4 => ps1_pe (ps1_must h4 fun h5 => ps1_then (h.expr _ h5) fun e m h6 h7 => pe_ok h7) (Nat.le_refl _)
 assocsL az k hk := by
  dsimp only [stepP]
  split
  ·rename_i hw
   have := isW_lt hw hk
   simp only [List.length_cons, List.length_nil] at this
   exact ps1_pe (ps1_then (h.assoc _ this) fun a n h1 h2 => h.assocsL _ n h2) (by omega)
  ·exact pe_ok hk
 choice k hk := by
  dsimp only [stepP]
  split
  ·rename_i hw
   exact ps1_ok (isW_lt hw hk) (good_word hw (by decide) (by decide))
  ·refine ps1_then (h.simple k hk) fun x n h1 h2 => ?_
   split
   ·rename_i hw
    have := isW_lt hw h2
    simp only [List.length_cons, List.length_nil] at this
    exact ps1_pe (ps1_then (h.simple _ this) fun y m h3 h4 => pe_ok h4) (by omega)
   ·exact pe_then (h.rest x n h2) fun y m h3 h4 => pe_ok h4
 choicesL az k hk := by
  dsimp only [stepP]
  split
  ·rename_i hw
   have := isW_lt hw hk
   simp only [List.length_cons, List.length_nil] at this
   exact ps1_pe (ps1_then (h.choice _ this) fun a n h1 h2 => h.choicesL _ n h2) (by omega)
  ·exact pe_ok hk
 arg k hk := by
  dsimp only [stepP]
  split
  ·rename_i hw
   have h1 := tk_lt (l := l) (k := k) (by rw [hw.1]; decide)
   have := isW_lt hw.2 h1
   simp only [List.length_cons, List.length_nil] at this
   exact ps1_less (ps1_then (h.expr _ this) fun y m h3 h4 => pe_ok h4) (by omega)
  ·exact ps1_then (h.expr k hk) fun y m h3 h4 => pe_ok h4
 argsL az k hk := by
  dsimp only [stepP]
  split
  ·rename_i hw
   have := isW_lt hw hk
   simp only [List.length_cons, List.length_nil] at this
   exact ps1_pe (ps1_then (h.arg _ this) fun a n h1 h2 => h.argsL _ n h2) (by omega)
  ·exact pe_ok hk
 name k hk := ps1_take hk fun h1 s => h.nameL _ _ _ h1
 nameL i x k hk := by
  dsimp only [stepP]
  split
  ·rename_i hw
   have := isW_lt hw hk
   simp only [List.length_cons, List.length_nil] at this
   rw [isW2, Bool.and_eq_true] at hw
   have hf := h.nameL i (.mk 5 0 0 [] [x] [] i 0 0) (k + 2) (by omega)
   refine ⟨adv_less hf.1 (by omega), fun y k' e _ => ?_⟩
   rcases Nat.lt_or_ge (k + 2) k' with hl | hl
   ·exact hf.2 y k' e hl
   ·have h2 := hf.1
    rw [e] at h2
    have : k' = k + 1 + 1 := Nat.le_antisymm hl h2.1
    subst this
    exact good_word hw.2 (by decide) (by decide)
  ·split
   ·rename_i hw
    have := isW_lt hw hk
    simp only [List.length_cons, List.length_nil] at this
    exact ps1_pe (ps1_take this fun h1 s => h.nameL _ _ _ h1) (by omega)
   ·split
    ·rename_i hw
     have := isW_lt hw hk
     simp only [List.length_cons, List.length_nil] at this
     exact ps1_pe (ps1_then (h.arg _ this) fun a n h1 h2 => pe_then (h.argsL _ _ h2) fun az m h3 h4 => ps1_pe (ps1_mustE h4 (by decide) (by decide) fun h5 => h.nameL _ _ _ h5) (Nat.le_refl _)) (by omega)
    ·split
     ·rename_i hw
      have := isW_lt hw hk
      simp only [List.length_cons, List.length_nil] at this
      exact ps1_pe (ps1_then (h.paren _ (by omega)) fun a n h1 h2 => h.nameL _ _ _ h2) (by omega)
     ·split
      ·rename_i hw
       have := isW_lt hw hk
       simp only [List.length_cons, List.length_nil] at this
       exact ps1_pe (ps1_take this fun h1 s => h.nameL _ _ _ h1) (by omega)
      ·exact pe_ok hk
theorem P_end : ∀ n, (P l n).End l
 | 0 => by constructor <;> intros <;> exact ⟨trivial, fun _ _ e => by cases e⟩
 | n + 1 => stepP_end (P_end n)
end
end Go.Dl

-- Chapter 3: expressions: the plain laws, part 7: reading sees no token behind what it reads.
namespace Go.Dl
open Go
set_option maxRecDepth 10000
section
variable {l : List Tok} {n : Nat}
theorem tk_take {k : Nat} : tk (l.take n) k = if k < n then tk l k else tok0 := by
 unfold tk
 rw [List.getD, List.getElem?_take]
 split <;> rfl
theorem isW_take : ∀ {ws : List (List UInt8)} {k : Nat}, isW (l.take n) k ws = (isW l k ws && decide (ws = [] ∨ k + ws.length ≤ n))
 | [], k => by simp [isW]
 | s :: r, k => by
  rw [isW, isW, isW_take (ws := r), tk_take]
  by_cases h : k < n
  ·rw [if_pos h, Bool.and_assoc, Bool.and_assoc, Bool.and_assoc]
   congr 3
   rw [decide_eq_decide, List.length_cons]
   constructor
   ·rintro (rfl | h2)
    ·right; simp; omega
    ·right; omega
   ·rintro (h2 | h2)
    ·cases h2
    ·right; omega
  ·rw [if_neg h, List.length_cons]
   have e : decide (tok0.kind = kindW s) = false := decide_eq_false fun e => kindW_ne s e.symm
   have e2 : decide (s :: r = [] ∨ k + (r.length + 1) ≤ n) = false := decide_eq_false (by rintro (h2 | h2); cases h2; omega)
   rw [e, e2, Bool.and_false]; simp
theorem isW_take_lt {k : Nat} {s : List UInt8} (h : k < n) : isW (l.take n) k [s] = isW l k [s] := by
 rw [isW_take, decide_eq_true, Bool.and_true]
 right; simp; omega
theorem isW_take_no {k : Nat} {ws : List (List UInt8)} (h : isW l k ws = false) : isW (l.take n) k ws = false := by rw [isW_take, h, Bool.false_and]
def PA (l : List Tok) (n : Nat) {α : Type} (k : Nat) (r r' : Res α) : Prop := Adv l k r ∧ (k ≤ n → ∀ x k', r = .ok x k' → k' ≤ n → r' = .ok x k')
theorem pa_less {α : Type} {k j : Nat} {r r' : Res α} (h : PA l n j r r') (hj : k ≤ j) : PA l n k r r' := ⟨adv_less h.1 hj, fun _ x k' e hk => by
 have := h.1
 rw [e] at this
 exact h.2 (Nat.le_trans this.1 hk) x k' e hk⟩
theorem pa_far {α : Type} {k : Nat} {r r' : Res α} (h : Adv l k r) (hk : n < k) : PA l n k r r' := ⟨h, fun h => by omega⟩
theorem pa_then {α β : Type} {k : Nat} {r r' : Res α} {f f' : α → Nat → Res β} (h : PA l n k r r') (hf : ∀ x k1, k ≤ k1 → k1 ≤ l.length → PA l n k1 (f x k1) (f' x k1)) : PA l n k (r.then f) (r'.then f') := by
 refine ⟨adv_then h.1 fun x n h1 h2 => adv_less (hf x n h1 h2).1 (by omega), fun hk y k' e hk' => ?_⟩
 cases r with
 | bot => cases e
 | fail m => cases e
 | ok x m =>
  have g := hf x m h.1.1 h.1.2
  change f x m = .ok y k' at e
  have g2 := g.1
  rw [e] at g2
  have hm : m ≤ n := Nat.le_trans g2.1 hk'
  rw [h.2 hk x m rfl hm]
  exact g.2 hm y k' e hk'
theorem pa_ok {α : Type} {x : α} {k : Nat} (hk : k ≤ l.length) : PA l n k (.ok x k) (.ok x k) := ⟨adv_ok (Nat.le_refl _) hk, fun _ y k' e _ => e⟩
theorem pa_fail {α : Type} {k j : Nat} {r' : Res α} (hk : j ≤ l.length) : PA l n k (.fail j) r' := ⟨hk, fun _ y k' e _ => by cases e⟩
theorem pa_ite {α : Type} {ws : List (List UInt8)} {k : Nat} {a a' b b' : Res α} (hk : k ≤ l.length) (h1 : k + ws.length ≤ l.length → PA l n (k + ws.length) a a') (h2 : isW l k ws = false → PA l n k b b') : PA l n k (if isW l k ws then a else b) (if isW (l.take n) k ws then a' else b') := by
 rw [isW_take]
 cases h : isW l k ws with
 | false => exact h2 h
 | true =>
  have h1 := h1 (isW_lt h hk)
  by_cases c : ws = [] ∨ k + ws.length ≤ n
  ·rw [if_pos rfl, Bool.true_and, decide_eq_true c, if_pos rfl]
   exact pa_less h1 (by omega)
  ·rw [if_pos rfl]
   exact pa_less (pa_far h1.1 (by omega)) (by omega)
theorem pa_iteL {α : Type} {s : List UInt8} {k : Nat} {a a' b b' : Res α} (hk : k ≤ l.length) (h1 : k + 1 ≤ l.length → PA l n k a a') (h3 : k + 1 ≤ l.length → Adv l (k + 1) a) (h2 : isW l k [s] = false → PA l n k b b') : PA l n k (if isW l k [s] then a else b) (if isW (l.take n) k [s] then a' else b') := by
 rw [isW_take]
 cases h : isW l k [s] with
 | false => exact h2 h
 | true =>
  have hw := isW_lt h hk
  have h1 := h1 hw
  by_cases c : [s] = [] ∨ k + [s].length ≤ n
  ·rw [if_pos rfl, Bool.true_and, decide_eq_true c, if_pos rfl]
   exact h1
  ·rw [if_pos rfl]
   exact pa_less (pa_far (h3 hw) (by simp at c; omega)) (by omega)
theorem pa_must {α : Type} {s : List UInt8} {k : Nat} {f f' : Nat → Res α} (hk : k ≤ l.length) (h : k + 1 ≤ l.length → PA l n (k + 1) (f (k + 1)) (f' (k + 1))) : PA l n k (must l s k f) (must (l.take n) s k f') :=
 pa_ite hk h fun _ => pa_fail hk
theorem pa_take {α : Type} {k : Nat} {f f' : List UInt8 → Nat → Res α} (hk : k ≤ l.length) (h : k + 1 ≤ l.length → ∀ s, PA l n (k + 1) (f s (k + 1)) (f' s (k + 1))) : PA l n k (takeN l k f) (takeN (l.take n) k f') := by
 unfold takeN
 rw [tk_take]
 split
 ·rename_i hw
  have hf := h (tk_lt (by rw [hw]; decide)) (tk l k).text
  by_cases c : k < n
  ·rw [if_pos c, if_pos hw]; exact pa_less hf (by omega)
  ·exact pa_less (pa_far hf.1 (by omega)) (by omega)
 ·exact pa_fail hk
theorem words_log : ∀ o, o < 22 → o ≠ 0 → (wordsN o).length = 1 ∨ (wordsN o).length = 2 ∧ ((wordsN o).head? = some wAnd ∨ (wordsN o).head? = some wOr) := by decide +kernel
theorem isW_head {k : Nat} {ws : List (List UInt8)} {s : List UInt8} (h : isW l k ws = true) (hs : ws.head? = some s) : isW l k [s] = true := by
 cases ws with
 | nil => cases hs
 | cons a r =>
  cases hs
  rw [isW, Bool.and_eq_true] at h
  rw [isW1]; exact h.1
theorem opF_none {want k : Nat} {l : List Tok} : ∀ {os : List Nat}, (∀ o ∈ os, isW l k (wordsN o) = false) → opF l want k os = (0, k)
 | [], _ => rfl
 | o :: r, h => by rw [opF, h o (by simp), if_neg (by simp)]; exact opF_none fun x hx => h x (by simp [hx])
theorem opF_take (hg : Good l n) {want k : Nat} (hk : k ≤ n) : ∀ {os : List Nat}, (∀ o ∈ os, o < 22 ∧ o ≠ 0) → (opF l want k os).2 ≤ n → opF (l.take n) want k os = opF l want k os
 | [], _, _ => rfl
 | o :: r, h, hq => by
  have ho := h o (by simp)
  have hw := wordsN_ne o ho.1 ho.2
  have hne : wordsN o ≠ [] := fun e => by rw [e] at hw; cases hw
  rw [opF] at hq ⊢
  rw [opF, isW_take]
  cases c : isW l k (wordsN o) with
  | false =>
   rw [c] at hq
   exact opF_take hg hk (fun x hx => h x (by simp [hx])) hq
  | true =>
   rw [c] at hq
   by_cases c2 : k + (wordsN o).length ≤ n
   ·rw [Bool.true_and, decide_eq_true (.inr c2)]; rfl
   ·rw [if_pos rfl] at hq ⊢
    by_cases c3 : want ≠ 0 ∧ o ≠ want
    ·rw [if_pos c3]
     have e : decide (wordsN o = [] ∨ k + (wordsN o).length ≤ n) = false := decide_eq_false (by rintro (h2 | h2); exact hne h2; exact c2 h2)
     rw [Bool.true_and, e, if_neg (by simp)]
     refine opF_none fun x hx => ?_
     have hx0 := wordsN_ne x (h x (by simp [hx])).1 (h x (by simp [hx])).2
     rw [isW_take]
     by_cases c4 : k = n
     ·rw [decide_eq_false (p := wordsN x = [] ∨ _), Bool.and_false]
      rintro (h2 | h2)
      ·rw [h2] at hx0; cases hx0
      ·omega
     ·exfalso
      rcases words_log o ho.1 ho.2 with h1 | ⟨h1, h2⟩
      ·omega
      ·have hkn : k + 1 = n := by omega
       have := hg k hkn
       rcases h2 with h2 | h2
       ·rw [isW_head c h2] at this; cases this.1
       ·rw [isW_head c h2] at this; cases this.2
    ·rw [if_neg c3] at hq
     exact absurd hq (by dsimp only; exact c2)
theorem opF_self {k : Nat} : ∀ {os : List Nat}, (opF l 0 k os).1 ≠ 0 → opF l (opF l 0 k os).1 k os = opF l 0 k os
 | [], h => absurd rfl h
 | o :: r, h => by
  rw [opF] at h ⊢
  cases c : isW l k (wordsN o) with
  | true =>
   rw [opF, c]
   simp
  | false =>
   rw [c] at h
   simp only [Bool.false_eq_true, if_false] at h ⊢
   rw [opF, c]
   simp only [Bool.false_eq_true, if_false]
   exact opF_self h
theorem restL_far (m : Nat) (x : Ex) (k : Nat) (hk : k ≤ l.length) (h : (opF l 0 k opsLog).1 ≠ 0) : Adv l (opF l 0 k opsLog).2 ((P l m).restL (opF l 0 k opsLog).1 x k) := by
 cases m with
 | zero => trivial
 | succ m =>
  have e : (P l (m + 1)).restL (opF l 0 k opsLog).1 x k = if (opF l 0 k opsLog).1 = 0 then .ok x k else if (opF l (opF l 0 k opsLog).1 k opsLog).1 = 0 then .ok x k else ((P l m).simple (opF l (opF l 0 k opsLog).1 k opsLog).2).then fun y j => ((P l m).relation y j).then fun y j => (P l m).restL (opF l 0 k opsLog).1 (both (opF l 0 k opsLog).1 x y) j := rfl
  rw [e, if_neg h, opF_self h, if_neg h]
  have h3 := (opF_adv (want := 0) ops_ok.1 hk).2.2.1
  have ha := P_adv (l := l) m
  exact adv_then (a := (opF l 0 k opsLog).2 + 1) (ha.simple _ h3) fun y j h1 h2 => adv_then (ha.relation y j h2) fun z i h3 h4 => adv_less (ha.restL _ _ i h4) (by omega)
structure PS.Pre (l : List Tok) (n : Nat) (p q : PS) : Prop where
 expr : ∀ k, k ≤ l.length → PA l n k (p.expr k) (q.expr k)
 rest : ∀ x k, k ≤ l.length → PA l n k (p.rest x k) (q.rest x k)
 restL : ∀ o x k, k ≤ l.length → PA l n k (p.restL o x k) (q.restL o x k)
 relation : ∀ x k, k ≤ l.length → PA l n k (p.relation x k) (q.relation x k)
 simple : ∀ k, k ≤ l.length → PA l n k (p.simple k) (q.simple k)
 addL : ∀ x k, k ≤ l.length → PA l n k (p.addL x k) (q.addL x k)
 term : ∀ k, k ≤ l.length → PA l n k (p.term k) (q.term k)
 mulL : ∀ x k, k ≤ l.length → PA l n k (p.mulL x k) (q.mulL x k)
 factor : ∀ k, k ≤ l.length → PA l n k (p.factor k) (q.factor k)
 primary : ∀ k, k ≤ l.length → PA l n k (p.primary k) (q.primary k)
 paren : ∀ k, k ≤ l.length → PA l n k (p.paren k) (q.paren k)
 assoc : ∀ k, k ≤ l.length → PA l n k (p.assoc k) (q.assoc k)
 assocsL : ∀ a k, k ≤ l.length → PA l n k (p.assocsL a k) (q.assocsL a k)
 choice : ∀ k, k ≤ l.length → PA l n k (p.choice k) (q.choice k)
 choicesL : ∀ a k, k ≤ l.length → PA l n k (p.choicesL a k) (q.choicesL a k)
 arg : ∀ k, k ≤ l.length → PA l n k (p.arg k) (q.arg k)
 argsL : ∀ a k, k ≤ l.length → PA l n k (p.argsL a k) (q.argsL a k)
 name : ∀ k, k ≤ l.length → PA l n k (p.name k) (q.name k)
 nameL : ∀ i x k, k ≤ l.length → PA l n k (p.nameL i x k) (q.nameL i x k)
theorem pa_opF {α : Type} (hg : Good l n) {want k : Nat} {os : List Nat} {F F' : Nat × Nat → Res α} (hk : k ≤ l.length) (ho : ∀ o ∈ os, o < 22 ∧ o ≠ 0) (h : PA l n (opF l want k os).2 (F (opF l want k os)) (F' (opF l want k os))) : PA l n k (F (opF l want k os)) (F' (opF (l.take n) want k os)) := by
 obtain ⟨q1, q2, q3, q4⟩ := opF_adv (want := want) ho hk
 by_cases c : (opF l want k os).2 ≤ n
 ·rw [opF_take hg (by omega) ho c]
  exact pa_less h q4
 ·exact pa_less (pa_far h.1 (by omega)) q4
theorem tk_line {k : Nat} (h : k < n) : tk (l.take n) k = tk l k := by rw [tk_take, if_pos h]
theorem pa_lt {α : Type} {k : Nat} {r r' : Res α} (h1 : Adv l (k + 1) r) (h : k < n → PA l n k r r') : PA l n k r r' := ⟨adv_less h1 (by omega), fun hk x k' e hk' => by
 rw [e] at h1
 exact (h (Nat.lt_of_lt_of_le h1.1 hk')).2 hk x k' e hk'⟩
theorem stepP_pre (hg : Good l n) {p q : PS} (h : p.Pre l n q) (hA : p.Adv l) (hfar : ∀ x k, k ≤ l.length → (opF l 0 k opsLog).1 ≠ 0 → Adv l (opF l 0 k opsLog).2 (p.restL (opF l 0 k opsLog).1 x k)) : (stepP l p).Pre l n (stepP (l.take n) q) where
 expr k hk := pa_then (h.simple k hk) fun x n h1 h2 => h.rest x n h2
 rest x k hk := pa_then (h.relation x k hk) fun x j h1 h2 => by
  obtain ⟨q1, q2, q3, q4⟩ := opF_adv (want := 0) ops_ok.1 h2
  by_cases c : (opF l 0 j opsLog).2 ≤ n
  ·rw [opF_take hg (by omega) ops_ok.1 c]
   exact h.restL _ x j h2
  ·by_cases c2 : (opF l 0 j opsLog).1 = 0
   ·exact pa_far (h.restL _ x j h2).1 (by have := q1 c2; omega)
   ·exact pa_less (pa_far (hfar x j h2 c2) (by omega)) q4
 restL o x k hk := by
  dsimp only [stepP]
  split
  ·exact pa_ok hk
  ·obtain ⟨q1, q2, q3, q4⟩ := opF_adv (want := o) ops_ok.1 hk
   refine pa_opF (F := fun q1 => if q1.1 = 0 then Res.ok x k else (p.simple q1.2).then fun y k => (p.relation y k).then fun y k => p.restL o (both o x y) k) (F' := fun q1 => if q1.1 = 0 then Res.ok x k else (q.simple q1.2).then fun y k => (q.relation y k).then fun y k => q.restL o (both o x y) k) hg hk ops_ok.1 ?_
   split
   ·rename_i c
    rw [q1 c]; exact pa_ok hk
   ·exact pa_then (h.simple _ q3) fun y n h1 h2 => pa_then (h.relation y n h2) fun z m h3 h4 => h.restL _ _ m h4
 relation x k hk := by
  dsimp only [stepP]
  obtain ⟨q1, q2, q3, q4⟩ := opF_adv (want := 0) ops_ok.2.1 hk
  have hin : ∀ kind j, j ≤ l.length → PA l n j (inK l x kind j p) (inK (l.take n) x kind j q) := fun kind j h2 => by
   refine pa_then (h.simple j h2) fun y m h3 h4 => ?_
   refine pa_ite h4 (fun h5 => pa_then (h.simple (m + 1) (by simpa using h5)) fun z m _ h => pa_ok h) fun _ => ?_
   split
   ·exact pa_ok h4
   ·exact pa_fail h4
  by_cases c : (opF l 0 k opsRel).1 = 0
  ·by_cases c3 : (opF l 0 k opsRel).2 ≤ n
   ·rw [opF_take hg (by omega) ops_ok.2.1 c3, if_neg (show ¬ (opF l 0 k opsRel).1 ≠ 0 from fun h => h c), if_neg (show ¬ (opF l 0 k opsRel).1 ≠ 0 from fun h => h c)]
    exact pa_ite hk (fun h5 => hin _ _ (by simpa using h5)) fun _ => pa_ite hk (fun h5 => hin _ _ (by simpa using h5)) fun _ => pa_ok hk
   ·have hkn : n < k := by have := q1 c; omega
    rw [if_neg (show ¬ (opF l 0 k opsRel).1 ≠ 0 from fun h => h c)]
    refine pa_far ?_ hkn
    exact (pa_ite (n := n) (b' := (if isW (l.take n) k [wNot, wIn] then inK (l.take n) x 14 (k + 2) q else .ok x k)) hk (fun h5 => hin _ _ (by simpa using h5)) fun _ => pa_ite hk (fun h5 => hin _ _ (by simpa using h5)) fun _ => pa_ok hk).1
  ·have hf : PA l n (opF l 0 k opsRel).2 ((p.simple (opF l 0 k opsRel).2).then fun y k_1 => .ok (both (opF l 0 k opsRel).1 x y) k_1) ((q.simple (opF l 0 k opsRel).2).then fun y k_1 => .ok (both (opF l 0 k opsRel).1 x y) k_1) := pa_then (h.simple _ q3) fun y n h1 h2 => pa_ok h2
   rw [if_pos c]
   by_cases c3 : (opF l 0 k opsRel).2 ≤ n
   ·rw [opF_take hg (by omega) ops_ok.2.1 c3, if_pos c]
    exact pa_less hf q4
   ·exact pa_less (pa_far hf.1 (by omega)) q4
 simple k hk := by
  dsimp only [stepP]
  obtain ⟨q1, q2, q3, q4⟩ := opF_adv (want := 0) ops_ok.2.2.1 hk
  refine pa_lt (adv_then (hA.term _ q3) fun x n h1 h2 => adv_less (hA.addL _ n h2) (by omega)) fun hkn => ?_
  rw [tk_line hkn]
  exact pa_opF (F := fun q1 => (p.term q1.2).then fun x k' => p.addL (mona q1.1 (tk l k).line x) k') (F' := fun q1 => (q.term q1.2).then fun x k' => q.addL (mona q1.1 (tk l k).line x) k') hg hk ops_ok.2.2.1 (pa_then (h.term _ q3) fun x n h1 h2 => h.addL _ n h2)
 addL x k hk := by
  dsimp only [stepP]
  obtain ⟨q1, q2, q3, q4⟩ := opF_adv (want := 0) ops_ok.2.2.2.1 hk
  refine pa_opF (F := fun q1 => if q1.1 = 0 then Res.ok x k else (p.term q1.2).then fun y k => p.addL (both q1.1 x y) k) (F' := fun q1 => if q1.1 = 0 then Res.ok x k else (q.term q1.2).then fun y k => q.addL (both q1.1 x y) k) hg hk ops_ok.2.2.2.1 ?_
  split
  ·rename_i c
   rw [q1 c]; exact pa_ok hk
  ·exact pa_then (h.term _ q3) fun x n h1 h2 => h.addL _ n h2
 term k hk := pa_then (h.factor k hk) fun x n h1 h2 => h.mulL _ n h2
 mulL x k hk := by
  dsimp only [stepP]
  obtain ⟨q1, q2, q3, q4⟩ := opF_adv (want := 0) ops_ok.2.2.2.2.1 hk
  refine pa_opF (F := fun q1 => if q1.1 = 0 then Res.ok x k else (p.factor q1.2).then fun y k => p.mulL (both q1.1 x y) k) (F' := fun q1 => if q1.1 = 0 then Res.ok x k else (q.factor q1.2).then fun y k => q.mulL (both q1.1 x y) k) hg hk ops_ok.2.2.2.2.1 ?_
  split
  ·rename_i c
   rw [q1 c]; exact pa_ok hk
  ·exact pa_then (h.factor _ q3) fun x n h1 h2 => h.mulL _ n h2
 factor k hk := by
  dsimp only [stepP]
  obtain ⟨q1, q2, q3, q4⟩ := opF_adv (want := 0) ops_ok.2.2.2.2.2 hk
  refine pa_lt (adv_then (hA.primary _ q3) fun x n h1 h2 => adv_ok (by omega) h2) fun hkn => ?_
  rw [tk_line hkn]
  exact pa_opF (F := fun q1 => (p.primary q1.2).then fun x k' => .ok (mona q1.1 (tk l k).line x) k') (F' := fun q1 => (q.primary q1.2).then fun x k' => .ok (mona q1.1 (tk l k).line x) k') hg hk ops_ok.2.2.2.2.2 (pa_then (h.primary _ q3) fun x n h1 h2 => pa_ok h2)
 primary k hk := by
  refine pa_lt ((stepP_adv hA).primary k hk) fun hkn => ?_
  dsimp only [stepP]
  rw [tk_line hkn]
  split
  ·rename_i hq
   exact pa_less (pa_ok (tk_lt (by rw [hq]; decide))) (by omega)
  ·exact pa_ite hk (fun h5 => pa_ok h5) fun _ => pa_iteL hk (fun _ => h.paren k hk) (fun _ => (hA.paren k hk)) fun _ => h.name k hk
 paren k hk := by
  refine pa_lt ((stepP_adv hA).paren k hk) fun hkn => ?_
  dsimp only [stepP]
  refine pa_less (pa_must hk fun hk1 => ?_) (Nat.le_refl _)
  simp only [Nat.add_sub_cancel, tk_line hkn]
  refine pa_ite hk1 (fun h5 => ?_) fun _ => ?_
  ·exact pa_then (h.expr _ h5) fun a n1 h1 h2 => pa_less (pa_must h2 fun h3 => pa_then (h.expr _ h3) fun b n2 h4 h5 => pa_less (pa_must h5 fun h6 => pa_then (h.expr _ h6) fun c n3 h7 h8 => pa_less (pa_must h8 fun h9 => pa_ok h9) (Nat.le_refl _)) (Nat.le_refl _)) (Nat.le_refl _)
  ·exact pa_then (h.assoc _ hk1) fun a n1 h1 h2 => pa_then (h.assocsL _ _ h2) fun az n2 h3 h4 => pa_must h4 fun h5 => pa_ok h5
 assoc k hk := by
  refine pa_then (h.choice k hk) fun c m h1 h2 => ?_
  have key : PA l n m (if c.kind = 3 then must l wArrow m fun k => (p.expr k).then fun e k => .ok (As.mk [c] e) k else (p.choicesL [c] m).then fun cs k => must l wArrow k fun k => (p.expr k).then fun e k => .ok (.mk cs e) k) (if c.kind = 3 then must (l.take n) wArrow m fun k => (q.expr k).then fun e k => .ok (.mk [c] e) k else (q.choicesL [c] m).then fun cs k => must (l.take n) wArrow k fun k => (q.expr k).then fun e k => .ok (.mk cs e) k) := by
   split
   ·exact pa_must h2 fun h3 => pa_then (h.expr _ h3) fun e m h4 h5 => pa_ok h5
   ·exact pa_then (h.choicesL _ _ h2) fun cs m h3 h4 => pa_must h4 fun h5 => pa_then (h.expr _ h5) fun e m h6 h7 => pa_ok h7
  have keyA : Adv l (m + 1) (if c.kind = 3 then must l wArrow m fun k => (p.expr k).then fun e k => .ok (As.mk [c] e) k else (p.choicesL [c] m).then fun cs k => must l wArrow k fun k => (p.expr k).then fun e k => .ok (.mk cs e) k) := by
   split
   ·exact must_adv h2 fun h3 => adv_then (hA.expr _ h3) fun e m h4 h5 => adv_ok (by omega) h5
   ·exact adv_then (hA.choicesL _ _ h2) fun cs m h3 h4 => must_adv h4 fun h5 => adv_then (hA.expr _ h5) fun e m h6 h7 => adv_ok (by omega) h7
  by_cases hm : m < n
  ·rw [isW_take_lt hm, isW_take_lt hm]
   split
   ·exact pa_ok h2
   ·exact key
  ·by_cases c1 : c.kind = 1 ∧ isW l m [wBar] = false ∧ isW l m [wArrow] = false
   ·rw [if_pos c1, if_pos ⟨c1.1, isW_take_no c1.2.1, isW_take_no c1.2.2⟩]
    exact pa_ok h2
   ·rw [if_neg c1]
    exact pa_less (pa_far keyA (by omega)) (by omega)
 assocsL az k hk := by
  dsimp only [stepP]
  exact pa_ite hk (fun h5 => pa_then (h.assoc _ h5) fun a n h1 h2 => h.assocsL _ n h2) fun _ => pa_ok hk
 choice k hk := by
  dsimp only [stepP]
  refine pa_ite hk (fun h5 => pa_ok h5) fun _ => pa_then (h.simple k hk) fun x m h1 h2 => ?_
  exact pa_ite h2 (fun h5 => pa_then (h.simple _ h5) fun y m h3 h4 => pa_ok h4) fun _ => pa_then (h.rest x m h2) fun y m h3 h4 => pa_ok h4
 choicesL az k hk := by
  dsimp only [stepP]
  exact pa_ite hk (fun h5 => pa_then (h.choice _ h5) fun a n h1 h2 => h.choicesL _ n h2) fun _ => pa_ok hk
 arg k hk := by
  refine pa_lt ((stepP_adv hA).arg k hk) fun hkn => ?_
  dsimp only [stepP]
  rw [tk_line hkn]
  by_cases c : (tk l k).kind = 1 ∧ isW l (k + 1) [wArrow] = true
  ·have h1 := tk_lt (l := l) (k := k) (by rw [c.1]; decide)
   have h5 := isW_lt c.2 h1
   simp only [List.length_cons, List.length_nil] at h5
   rw [if_pos c]
   have hf : ∀ r', Adv l (k + 3) r' → n < k + 3 → PA l n k r' (if (tk l k).kind = 1 ∧ isW (l.take n) (k + 1) [wArrow] = true then (q.expr (k + 2)).then fun e k' => .ok (As.mk [.mk 1 [.mk 3 0 0 (tk l k).text [] [] (tk l k).line 0 0]] e) k' else (q.expr k).then fun e k => .ok (.mk [] e) k) := fun r' ha hn => pa_less (pa_far ha hn) (by omega)
   by_cases c2 : k + 2 ≤ n
   ·rw [if_pos ⟨c.1, by rw [isW_take, c.2, Bool.true_and, decide_eq_true_eq]; right; simp; omega⟩]
    exact pa_less (pa_then (h.expr _ h5) fun y m h3 h4 => pa_ok h4) (by omega)
   ·exact hf _ (adv_then (hA.expr _ h5) fun y m h3 h4 => adv_ok (by omega) h4) (by omega)
  ·rw [if_neg c, if_neg (fun h => c ⟨h.1, by
    have := h.2
    rw [isW_take, Bool.and_eq_true] at this
    exact this.1⟩)]
   exact pa_then (h.expr k hk) fun y m h3 h4 => pa_ok h4
 argsL az k hk := by
  dsimp only [stepP]
  exact pa_ite hk (fun h5 => pa_then (h.arg _ h5) fun a n h1 h2 => h.argsL _ n h2) fun _ => pa_ok hk
 name k hk := by
  refine pa_lt ((stepP_adv hA).name k hk) fun hkn => ?_
  dsimp only [stepP]
  rw [tk_line hkn]
  exact pa_less (pa_take hk fun h1 s => h.nameL _ _ _ h1) (by omega)
 nameL i x k hk := by
  dsimp only [stepP]
  refine pa_ite hk (fun h5 => h.nameL _ _ _ h5) fun _ => ?_
  refine pa_ite hk (fun h5 => pa_take h5 fun h1 s => pa_less (h.nameL _ _ _ h1) (by omega)) fun _ => ?_
  refine pa_ite hk (fun h5 => pa_then (h.arg _ h5) fun a n h1 h2 => pa_then (h.argsL _ _ h2) fun az m h3 h4 => pa_must h4 fun h5 => h.nameL _ _ _ h5) fun _ => ?_
  refine pa_ite hk (fun h5 => ?_) fun _ => ?_
  ·have hk1 : k + 1 ≤ l.length := by simp only [List.length_cons, List.length_nil] at h5; omega
   have ht := pa_then (h.paren _ hk1) (f := fun y k => p.nameL i (.mk 8 0 0 [] [x, y] [] i 0 0) k) (f' := fun y k => q.nameL i (.mk 8 0 0 [] [x, y] [] i 0 0) k) fun a n h1 h2 => h.nameL _ _ _ h2
   exact ⟨adv_then (hA.paren _ hk1) fun a m h3 h4 => adv_less (hA.nameL _ _ _ h4) h3, fun hk2 => ht.2 (by simp only [List.length_cons, List.length_nil] at hk2; omega)⟩
  ·exact pa_ite hk (fun h5 => pa_take h5 fun h1 s => pa_less (h.nameL _ _ _ h1) (by omega)) fun _ => pa_ok hk
theorem P_pre (hg : Good l n) : ∀ m, (P l m).Pre l n (P (l.take n) m)
 | 0 => by constructor <;> intros <;> exact ⟨trivial, fun _ _ _ e => by cases e⟩
 | m + 1 => stepP_pre hg (P_pre hg m) (P_adv m) fun x k hk h => restL_far m x k hk h
end
end Go.Dl

-- Chapter 3: expressions: the plain laws, part 8: what was read is not shorter than its tokens.
namespace Go.Dl
open Go
set_option maxRecDepth 10000
section
variable {l : List Tok}
def lenP (e : Ex) (lv : Int) : Nat := (partE e lv).length
theorem parT_len (b : Bool) (t : List Tok) : (parT b t).length = t.length + if b then 2 else 0 := by
 cases b <;> simp [parT]
theorem lenP_eq (e : Ex) (lv : Int) : lenP e lv = (toksE e).length + if levelE e < lv then 2 else 0 := by
 rw [lenP, partE, parT_len]; simp
theorem lenP_mono (e : Ex) {a b : Int} (h : a ≤ b) : lenP e a ≤ lenP e b := by
 rw [lenP_eq, lenP_eq]; split <;> split <;> omega
theorem level_ge (e : Ex) : 0 ≤ levelE e ∧ levelE e ≤ 5 := by
 unfold levelE; repeat' split
 all_goals omega
theorem lenP_0 (e : Ex) : lenP e 0 = (toksE e).length := by
 have := (level_ge e).1
 rw [lenP_eq, if_neg (by omega)]; rfl
def Post {α : Type} (R : α → Nat → Prop) (r : Res α) : Prop := ∀ x k', r = .ok x k' → R x k'
theorem post_then {α β : Type} {r : Res α} {f : α → Nat → Res β} {R : α → Nat → Prop} {S : β → Nat → Prop} (h : Post R r) (hf : ∀ x k1, R x k1 → Post S (f x k1)) : Post S (r.then f) := fun y k' e => by
 cases r with
 | bot => cases e
 | fail n => cases e
 | ok x n => exact hf x n (h x n rfl) y k' e
theorem post_ok {α : Type} {R : α → Nat → Prop} {k : Nat} {x : α} (h : R x k) : Post R (.ok x k) := fun y k' e => by cases e; exact h
theorem post_fail {α : Type} {R : α → Nat → Prop} {k : Nat} : Post R (.fail k) := fun y k' e => by cases e
theorem post_must {α : Type} {R : α → Nat → Prop} {k : Nat} {s : List UInt8} {f : Nat → Res α} (h : isW l k [s] = true → Post R (f (k + 1))) : Post R (must l s k f) := by
 unfold must
 split
 ·exact h ‹_›
 ·exact post_fail
theorem post_take {α : Type} {R : α → Nat → Prop} {k : Nat} {f : List UInt8 → Nat → Res α} (h : (tk l k).kind = 1 → Post R (f (tk l k).text (k + 1))) : Post R (takeN l k f) := by
 unfold takeN
 split
 ·exact h ‹_›
 ·exact post_fail
theorem post_and {α : Type} {R S : α → Nat → Prop} {r : Res α} (h : Post R r) (g : Post S r) : Post (fun x k => R x k ∧ S x k) r := fun x k e => ⟨h x k e, g x k e⟩
theorem adv_post {α : Type} {a : Nat} {r : Res α} (h : Adv l a r) : Post (fun _ k' => a ≤ k' ∧ k' ≤ l.length) r := fun x k' e => by rw [e] at h; exact h
def lcE (o : Nat) (x : Ex) : Nat := lenP x (if x.kind = 12 ∧ x.oper = o then 0 else 1)
def qualE (y : Ex) : Nat := (toksE y).length + if bareK y.kind then 0 else 2
def sepN (ta : List (List Tok)) : Nat := (ta.map fun t => t.length + 1).sum - 1
theorem sepT_len (s : List UInt8) : ∀ l : List (List Tok), (sepT s l).length = sepN l
 | [] => rfl
 | [x] => by simp [sepT, sepN]
 | x :: y :: r => by
  have ih := sepT_len s (y :: r)
  rw [sepT_cons s x _ (by simp), List.length_append, List.length_cons, ih]
  simp only [sepN, List.map_cons, List.sum_cons]
  omega
def sumT (ta : List (List Tok)) : Nat := (ta.map fun t => t.length + 1).sum
theorem sumT_snoc (ta : List (List Tok)) (t : List Tok) : sumT (ta ++ [t]) = sumT ta + t.length + 1 := by simp [sumT]; omega
def lenAs (a : List As) : Nat := sumT (a.map toksA)
def lenCs (a : List Ch) : Nat := sumT (a.map toksC)
theorem named_level {e : Ex} (h : namedE e = true) : levelE e = 5 := by
 unfold namedE at h
 rw [Bool.and_eq_true, decide_eq_true_eq, decide_eq_true_eq] at h
 unfold levelE
 rw [if_neg (by omega), if_neg (by omega), if_neg (by omega)]
theorem named_lenP {e : Ex} (h : namedE e = true) {lv : Int} (hl : lv ≤ 5) : lenP e lv = (toksE e).length := by
 rw [lenP_eq, named_level h, if_neg (by omega)]; rfl
theorem qual_lenP {e : Ex} {lv : Int} (hl : lv ≤ 5) : lenP e lv ≤ qualE e := by
 rw [lenP_eq, qualE]
 cases h : bareK e.kind with
 | true =>
  have : levelE e = 5 := by
   unfold bareK at h
   rw [Bool.or_eq_true, decide_eq_true_eq, decide_eq_true_eq] at h
   unfold levelE
   rw [if_neg (by omega), if_neg (by omega), if_neg (by omega)]
  rw [this, if_neg (by omega)]; simp
 | false => split <;> simp
theorem opF_mem {want k : Nat} : ∀ {os : List Nat}, (opF l want k os).1 ≠ 0 → (opF l want k os).1 ∈ os ∧ (opF l want k os).2 = k + (wordsN (opF l want k os).1).length ∧ isW l k (wordsN (opF l want k os).1) = true
 | [], h => absurd rfl h
 | o :: r, h => by
  rw [opF] at h ⊢
  split
  ·rename_i hw
   rw [if_pos hw] at h
   split
   ·rename_i hc
    rw [if_pos hc] at h; exact absurd rfl h
   ·exact ⟨List.mem_cons_self, rfl, hw⟩
  ·rename_i hw
   rw [if_neg hw] at h
   have := opF_mem h
   exact ⟨List.mem_cons_of_mem _ this.1, this.2⟩
theorem level_both (o : Nat) (x y : Ex) : levelE (both o x y) = if 13 ≤ o ∧ o ≤ 17 then 0 else if 7 ≤ o ∧ o ≤ 12 then 1 else if o = 1 ∨ o = 2 then 2 else if 3 ≤ o ∧ o ≤ 6 then 3 else 5 := by
 unfold levelE
 rw [show (both o x y).kind = 12 from rfl, show (both o x y).oper = (o : Int) from rfl, if_neg (by decide), if_neg (by decide), if_pos rfl]
 repeat' split
 all_goals omega
theorem toks_both (o : Nat) (x y : Ex) : toksE (both o x y) = partE x (leastL (both o x y)) ++ ((wordsN o).map wTok ++ partE y (leastR (both o x y))) := by
 rw [toksE_eq]
 rfl
theorem lenP_both (o : Nat) (x y : Ex) : (toksE (both o x y)).length = lenP x (leastL (both o x y)) + (wordsN o).length + lenP y (leastR (both o x y)) := by
 rw [toks_both, List.length_append, List.length_append, List.length_map, lenP, lenP, Nat.add_assoc]
theorem toks_mona (o : Nat) (x : Ex) (li : Int) : toksE (.mk 11 o 0 [] [x] [] li 0 0) = (wordsN o).map wTok ++ partE x (leastM (.mk 11 o 0 [] [x] [] li 0 0)) := by
 rw [toksE_eq]
 rfl
theorem level_mona (o : Nat) (x : Ex) (li : Int) : levelE (.mk 11 o 0 [] [x] [] li 0 0) = if o = 18 ∨ o = 19 then 2 else if o = 20 ∨ o = 21 then 4 else 5 := by
 unfold levelE
 rw [show (Ex.mk 11 o 0 [] [x] [] li 0 0).kind = 11 from rfl, show (Ex.mk 11 o 0 [] [x] [] li 0 0).oper = (o : Int) from rfl, if_neg (by decide), if_pos rfl]
 repeat' split
 all_goals omega
theorem bothLog {o : Nat} (h1 : 13 ≤ o) (h2 : o ≤ 17) (x y : Ex) : (toksE (both o x y)).length = lcE o x + (wordsN o).length + lenP y 1 ∧ levelE (both o x y) = 0 := by
 have hl : levelE (both o x y) = 0 := by rw [level_both, if_pos ⟨h1, h2⟩]
 refine ⟨?_, hl⟩
 have hR : leastR (both o x y) = 1 := by rw [leastR, hl]; rfl
 have hL : leastL (both o x y) = if (0 : Int) = 0 ∧ (x.kind ≠ 12 ∨ x.oper ≠ (o : Int)) then 1 else 0 := by
  rw [leastL, hl, if_neg (by decide)]; rfl
 rw [lenP_both, hL, hR, lcE]
 by_cases c : x.kind = 12 ∧ x.oper = o
 ·rw [if_pos c, if_neg (by rintro ⟨_, h | h⟩; exact h c.1; exact h c.2)]
 ·rw [if_neg c, if_pos ⟨rfl, by by_cases c1 : x.kind = 12; exact .inr fun h => c ⟨c1, h⟩; exact .inl c1⟩]
theorem bothRel {o : Nat} (h1 : 7 ≤ o) (h2 : o ≤ 12) (x y : Ex) : (toksE (both o x y)).length = lenP x 2 + (wordsN o).length + lenP y 2 ∧ levelE (both o x y) = 1 := by
 have hl : levelE (both o x y) = 1 := by rw [level_both, if_neg (by omega), if_pos ⟨h1, h2⟩]
 refine ⟨?_, hl⟩
 rw [lenP_both, leastL, leastR, hl]; rfl
theorem bothAdd {o : Nat} (h1 : o = 1 ∨ o = 2) (x y : Ex) : (toksE (both o x y)).length = lenP x 2 + (wordsN o).length + lenP y 3 ∧ levelE (both o x y) = 2 := by
 have hl : levelE (both o x y) = 2 := by rw [level_both, if_neg (by omega), if_neg (by omega), if_pos h1]
 refine ⟨?_, hl⟩
 rw [lenP_both, leastL, leastR, hl, if_neg (by decide), if_neg (by rintro ⟨h, _⟩; cases h)]; rfl
theorem bothMul {o : Nat} (h1 : 3 ≤ o) (h2 : o ≤ 6) (x y : Ex) : (toksE (both o x y)).length = lenP x 3 + (wordsN o).length + lenP y 4 ∧ levelE (both o x y) = 3 := by
 have hl : levelE (both o x y) = 3 := by rw [level_both, if_neg (by omega), if_neg (by omega), if_neg (by omega), if_pos ⟨h1, h2⟩]
 refine ⟨?_, hl⟩
 rw [lenP_both, leastL, leastR, hl, if_neg (by decide), if_neg (by rintro ⟨h, _⟩; cases h)]; rfl
theorem lenP_at {e : Ex} {lv : Int} (h : lv ≤ levelE e) : lenP e lv = (toksE e).length := by rw [lenP_eq, if_neg (by omega)]; rfl
theorem log_mem {o : Nat} (h : o ∈ opsLog) : 13 ≤ o ∧ o ≤ 17 := by simp [opsLog] at h; omega
theorem rel_mem {o : Nat} (h : o ∈ opsRel) : 7 ≤ o ∧ o ≤ 12 := by simp [opsRel] at h; omega
theorem sign_mem {o : Nat} (h : o ∈ opsSign) : o = 18 ∨ o = 19 := by simp [opsSign] at h; omega
theorem add_mem {o : Nat} (h : o ∈ opsAdd) : o = 1 ∨ o = 2 := by simp [opsAdd] at h; omega
theorem mul_mem {o : Nat} (h : o ∈ opsMul) : 3 ≤ o ∧ o ≤ 6 := by simp [opsMul] at h; omega
theorem fac_mem {o : Nat} (h : o ∈ opsFac) : o = 20 ∨ o = 21 := by simp [opsFac] at h; omega
theorem mona_sign {k : Nat} {x : Ex} {li : Int} {m : Nat} (h : lenP x 3 + (opF l 0 k opsSign).2 ≤ m) (hk : k ≤ l.length) : lenP (mona (opF l 0 k opsSign).1 li x) 2 + k ≤ m := by
 by_cases c : (opF l 0 k opsSign).1 = 0
 ·have h1 := lenP_mono x (show (2 : Int) ≤ 3 by decide)
  have h2 := (opF_adv (want := 0) ops_ok.2.2.1 hk).1 c
  rw [c, show mona 0 li x = x from rfl]; omega
 ·obtain ⟨h1, h2, _⟩ := opF_mem c
  have h3 := sign_mem h1
  generalize hq : (opF l 0 k opsSign).1 = o at *
  rw [mona, if_neg c]
  have hl : levelE (.mk 11 o 0 [] [x] [] li 0 0) = 2 := by rw [level_mona, if_pos h3]
  rw [lenP_at (by rw [hl]; decide), toks_mona, List.length_append, List.length_map, leastM, hl, if_pos rfl]
  unfold lenP at h; omega
theorem mona_fac {k : Nat} {x : Ex} {li : Int} {m : Nat} (h : lenP x 5 + (opF l 0 k opsFac).2 ≤ m) (hk : k ≤ l.length) : lenP (mona (opF l 0 k opsFac).1 li x) 4 + k ≤ m := by
 by_cases c : (opF l 0 k opsFac).1 = 0
 ·have h1 := lenP_mono x (show (4 : Int) ≤ 5 by decide)
  have h2 := (opF_adv (want := 0) ops_ok.2.2.2.2.2 hk).1 c
  rw [c, show mona 0 li x = x from rfl]; omega
 ·obtain ⟨h1, h2, _⟩ := opF_mem c
  have h3 := fac_mem h1
  generalize hq : (opF l 0 k opsFac).1 = o at *
  rw [mona, if_neg c]
  have hl : levelE (.mk 11 o 0 [] [x] [] li 0 0) = 4 := by rw [level_mona, if_neg (by omega), if_pos h3]
  rw [lenP_at (by rw [hl]; decide), toks_mona, List.length_append, List.length_map, leastM, hl, if_neg (by decide)]
  unfold lenP at h; omega
structure PS.Len (l : List Tok) (p : PS) : Prop where
 expr : ∀ k, k ≤ l.length → Post (fun x k' => lenP x 0 + k ≤ k') (p.expr k)
 rest : ∀ x k, k ≤ l.length → Post (fun y k' => lenP y 0 + k ≤ lenP x 2 + k') (p.rest x k)
 restL : ∀ o x k, k ≤ l.length → Post (fun y k' => (o = 0 → lenP y 0 + k ≤ lenP x 0 + k') ∧ (13 ≤ o ∧ o ≤ 17 → lenP y 0 + k ≤ lcE o x + k')) (p.restL o x k)
 relation : ∀ x k, k ≤ l.length → Post (fun y k' => lenP y 1 + k ≤ lenP x 2 + k') (p.relation x k)
 simple : ∀ k, k ≤ l.length → Post (fun x k' => lenP x 2 + k ≤ k') (p.simple k)
 addL : ∀ x k, k ≤ l.length → Post (fun y k' => lenP y 2 + k ≤ lenP x 2 + k') (p.addL x k)
 term : ∀ k, k ≤ l.length → Post (fun x k' => lenP x 3 + k ≤ k') (p.term k)
 mulL : ∀ x k, k ≤ l.length → Post (fun y k' => lenP y 3 + k ≤ lenP x 3 + k') (p.mulL x k)
 factor : ∀ k, k ≤ l.length → Post (fun x k' => lenP x 4 + k ≤ k') (p.factor k)
 primary : ∀ k, k ≤ l.length → Post (fun x k' => lenP x 5 + k ≤ k') (p.primary k)
 paren : ∀ k, k ≤ l.length → Post (fun x k' => qualE x + k ≤ k') (p.paren k)
 assoc : ∀ k, k ≤ l.length → Post (fun x k' => (toksA x).length + k ≤ k') (p.assoc k)
 assocsL : ∀ a k, k ≤ l.length → Post (fun b k' => lenAs b + k ≤ lenAs a + k') (p.assocsL a k)
 choice : ∀ k, k ≤ l.length → Post (fun x k' => (toksC x).length + k ≤ k' ∧ (x.kind = 1 → ∃ y, x.l = [y])) (p.choice k)
 choicesL : ∀ a k, k ≤ l.length → Post (fun b k' => lenCs b + k ≤ lenCs a + k' ∧ (a ≠ [] → b ≠ [])) (p.choicesL a k)
 arg : ∀ k, k ≤ l.length → Post (fun x k' => (toksA x).length + k ≤ k') (p.arg k)
 argsL : ∀ a k, k ≤ l.length → Post (fun b k' => lenAs b + k ≤ lenAs a + k') (p.argsL a k)
 name : ∀ k, k ≤ l.length → Post (fun x k' => (toksE x).length + k ≤ k' ∧ namedE x = true) (p.name k)
 nameL : ∀ i x k, k ≤ l.length → namedE x = true → Post (fun y k' => (toksE y).length + k ≤ (toksE x).length + k' ∧ namedE y = true) (p.nameL i x k)
theorem sumT_len (s : List UInt8) (ta : List (List Tok)) (h : ta ≠ []) : (sepT s ta).length + 1 = sumT ta := by
 rw [sepT_len, sepN, sumT]
 cases ta with
 | nil => exact absurd rfl h
 | cons t r => simp only [List.map_cons, List.sum_cons]; omega
theorem lcE_le (o : Nat) (x : Ex) : lcE o x ≤ lenP x 1 := by
 unfold lcE; split
 ·exact lenP_mono x (by decide)
 ·exact Nat.le_refl _
theorem both_kind (o : Nat) (x y : Ex) : (both o x y).kind = 12 ∧ (both o x y).oper = (o : Int) := ⟨rfl, rfl⟩
theorem lcE_both (o : Nat) (x y : Ex) : lcE o (both o x y) = lenP (both o x y) 0 := by rw [lcE, if_pos (both_kind o x y)]
theorem opF_want {want k : Nat} : ∀ {os : List Nat}, want ≠ 0 → (opF l want k os).1 ≠ 0 → (opF l want k os).1 = want
 | [], _, h => absurd rfl h
 | o :: r, hw, h => by
  rw [opF] at h ⊢
  split
  ·rename_i c
   rw [if_pos c] at h
   split
   ·rename_i c2
    rw [if_pos c2] at h; exact absurd rfl h
   ·rename_i c2
    by_cases c3 : o = want
    ·exact c3
    ·exact absurd ⟨hw, c3⟩ c2
  ·rename_i c
   rw [if_neg c] at h
   exact opF_want hw h
theorem lenCs_eq (a : List Ch) (h : a ≠ []) (s : List UInt8) : (sepT s (a.map toksC)).length + 1 = lenCs a := sumT_len s _ (by simpa using h)
theorem lenAs_one (a : As) : lenAs [a] = (toksA a).length + 1 := by simp [lenAs, sumT]
theorem lenCs_one (a : Ch) : lenCs [a] = (toksC a).length + 1 := by simp [lenCs, sumT]
theorem stepP_len {p : PS} (h : p.Len l) (hA : p.Adv l) : (stepP l p).Len l where
 expr k hk := post_then (post_and (h.simple k hk) (adv_post (hA.simple k hk))) fun x m ⟨h1, h2⟩ y k' e => by have := h.rest x m h2.2 y k' e; omega
 rest x k hk := post_then (post_and (h.relation x k hk) (adv_post (hA.relation x k hk))) fun y m ⟨h1, h2⟩ z k' e => by
  have := h.restL _ y m h2.2 z k' e
  have h3 := lenP_mono y (show (0 : Int) ≤ 1 by decide)
  by_cases c : (opF l 0 m opsLog).1 = 0
  ·have := this.1 c; omega
  ·have hm := log_mem (opF_mem c).1
   have := this.2 hm
   have := lcE_le (opF l 0 m opsLog).1 y
   omega
 restL o x k hk := by
  dsimp only [stepP]
  split
  ·rename_i c
   exact post_ok ⟨fun _ => Nat.le_refl _, fun h => by omega⟩
  ·rename_i c0
   obtain ⟨q1, q2, q3, q4⟩ := opF_adv (want := o) ops_ok.1 hk
   split
   ·refine post_ok ⟨fun h => absurd h c0, fun _ => ?_⟩
    have : lenP x 0 ≤ lcE o x := by unfold lcE; split; exact Nat.le_refl _; exact lenP_mono x (by decide)
    omega
   ·rename_i hq
    obtain ⟨m1, m2, m3⟩ := opF_mem hq
    refine post_then (post_and (h.simple _ q3) (adv_post (hA.simple _ q3))) fun y j ⟨h1, h2⟩ => post_then (post_and (h.relation y j h2.2) (adv_post (hA.relation y j h2.2))) fun z i ⟨h3, h4⟩ w k' e => ?_
    have g := h.restL o (both o x z) i h4.2 w k' e
    refine ⟨fun h => absurd h c0, fun ho => ?_⟩
    have g2 := g.2 ho
    rw [lcE_both, lenP_0 (both o x z), (bothLog ho.1 ho.2 x z).1] at g2
    have hoq : (opF l o k opsLog).1 = o := opF_want c0 hq
    rw [hoq] at m2
    omega
 relation x k hk := by
  dsimp only [stepP]
  obtain ⟨q1, q2, q3, q4⟩ := opF_adv (want := 0) ops_ok.2.1 hk
  have hx1 := lenP_mono x (show (1 : Int) ≤ 2 by decide)
  have hin : ∀ (kind : Int) (j : Nat), (kind = 13 ∧ j = k + 1 ∨ kind = 14 ∧ j = k + 2) → j ≤ l.length → Post (fun y k' => lenP y 1 + k ≤ lenP x 2 + k') (inK l x kind j p) := fun kind j hkj hj => by
   refine post_then (post_and (h.simple _ hj) (adv_post (hA.simple _ hj))) fun y i ⟨h1, h2⟩ => ?_
   have hlv : ∀ m, levelE (.mk kind 0 0 [] m [] x.line 0 0) = 1 := fun m => by
    unfold levelE
    rw [if_pos]; show kind = 13 ∨ kind = 14; omega
   have hform : ∀ m : List Ex, (toksE (.mk kind 0 0 [] m [] x.line 0 0)).length = (pE (.mk kind 0 0 [] m [] x.line 0 0) 0 2).length + (j - k) + (tailE (.mk kind 0 0 [] m [] x.line 0 0)).length := fun m => by
    rcases hkj with ⟨rfl, rfl⟩ | ⟨rfl, rfl⟩
    ·rw [toks13 rfl, List.length_append, List.length_cons]; omega
    ·rw [toks14 rfl, List.length_append, List.length_cons, List.length_cons]; omega
   split
   ·rename_i hw
    have := isW_lt hw h2.2
    simp only [List.length_cons, List.length_nil] at this
    refine post_then (h.simple _ this) fun z n h3 => post_ok ?_
    show lenP _ 1 + k ≤ _
    rw [lenP_at (by rw [hlv]; exact Int.le_refl _), hform]
    have e1 : (pE (.mk kind 0 0 [] [x, y, z] [] x.line 0 0) 0 2).length = lenP x 2 := rfl
    have e2 : (tailE (.mk kind 0 0 [] [x, y, z] [] x.line 0 0)).length = lenP y 2 + (lenP z 2 + 1) := by
     show (partE y 2 ++ wTok wDots :: partE z 2).length = _
     rw [List.length_append, List.length_cons]; rfl
    rw [e1, e2]
    omega
   ·split
    ·rename_i hnm
     refine post_ok ?_
     show lenP _ 1 + k ≤ _
     rw [lenP_at (by rw [hlv]; exact Int.le_refl _), hform]
     have e1 : (pE (.mk kind 0 0 [] [x, y] [] x.line 0 0) 0 2).length = lenP x 2 := rfl
     have e2 : (tailE (.mk kind 0 0 [] [x, y] [] x.line 0 0)).length = (toksE y).length := rfl
     have h1' : lenP y 2 + j ≤ i := h1
     rw [named_lenP hnm (by decide)] at h1'
     rw [e1, e2]
     omega
    ·exact post_fail
  split
  ·rename_i hq
   obtain ⟨m1, m2, m3⟩ := opF_mem hq
   refine post_then (h.simple _ q3) fun y j h1 => post_ok ?_
   have hb := bothRel (rel_mem m1).1 (rel_mem m1).2 x y
   show lenP _ 1 + k ≤ _
   rw [lenP_at (by rw [hb.2]; decide), hb.1]
   omega
  ·split
   ·rename_i hw
    have := isW_lt hw hk
    simp only [List.length_cons, List.length_nil] at this
    exact hin _ _ (.inl ⟨rfl, rfl⟩) this
   ·split
    ·rename_i hw
     have := isW_lt hw hk
     simp only [List.length_cons, List.length_nil] at this
     exact hin _ _ (.inr ⟨rfl, rfl⟩) this
    ·exact post_ok (by show lenP x 1 + k ≤ _; omega)
 simple k hk := by
  obtain ⟨q1, q2, q3, q4⟩ := opF_adv (want := 0) ops_ok.2.2.1 hk
  refine post_then (post_and (h.term _ q3) (adv_post (hA.term _ q3))) fun x j ⟨h1, h2⟩ y k' e => ?_
  have g := h.addL _ j h2.2 y k' e
  have := mona_sign (li := (tk l k).line) h1 hk
  omega
 addL x k hk := by
  dsimp only [stepP]
  obtain ⟨q1, q2, q3, q4⟩ := opF_adv (want := 0) ops_ok.2.2.2.1 hk
  split
  ·exact post_ok (Nat.le_refl _)
  ·rename_i hq
   obtain ⟨m1, m2, m3⟩ := opF_mem hq
   refine post_then (post_and (h.term _ q3) (adv_post (hA.term _ q3))) fun y j ⟨h1, h2⟩ z k' e => ?_
   have g := h.addL _ j h2.2 z k' e
   have hb := bothAdd (add_mem m1) x y
   rw [lenP_at (by rw [hb.2]; decide), hb.1] at g
   omega
 term k hk := post_then (post_and (h.factor k hk) (adv_post (hA.factor k hk))) fun x j ⟨h1, h2⟩ y k' e => by
  have g := h.mulL x j h2.2 y k' e
  have := lenP_mono x (show (3 : Int) ≤ 4 by decide)
  omega
 mulL x k hk := by
  dsimp only [stepP]
  obtain ⟨q1, q2, q3, q4⟩ := opF_adv (want := 0) ops_ok.2.2.2.2.1 hk
  split
  ·exact post_ok (Nat.le_refl _)
  ·rename_i hq
   obtain ⟨m1, m2, m3⟩ := opF_mem hq
   refine post_then (post_and (h.factor _ q3) (adv_post (hA.factor _ q3))) fun y j ⟨h1, h2⟩ z k' e => ?_
   have g := h.mulL _ j h2.2 z k' e
   have hb := bothMul (mul_mem m1).1 (mul_mem m1).2 x y
   rw [lenP_at (by rw [hb.2]; decide), hb.1] at g
   omega
 factor k hk := by
  obtain ⟨q1, q2, q3, q4⟩ := opF_adv (want := 0) ops_ok.2.2.2.2.2 hk
  exact post_then (h.primary _ q3) fun x j h1 => post_ok (mona_fac (li := (tk l k).line) h1 hk)
 primary k hk := by
  dsimp only [stepP]
  split
  ·exact post_ok (by rw [lenP_at (Int.le_refl 5), toksE_eq]; show 1 + k ≤ k + 1; omega)
  ·split
   ·exact post_ok (by rw [lenP_at (Int.le_refl 5), toksE_eq]; show 1 + k ≤ k + 1; omega)
   ·split
    ·exact fun x k' e => by
      have := h.paren k hk x k' e
      have := qual_lenP (e := x) (show (5 : Int) ≤ 5 by decide)
      omega
    ·exact fun x k' e => by
      have := h.name k hk x k' e
      show lenP x 5 + k ≤ k'
      rw [named_lenP this.2 (by decide)]
      exact this.1
 paren k hk := by
  dsimp only [stepP]
  refine post_must fun hw => ?_
  have hk1 := isW_lt hw hk
  simp only [List.length_cons, List.length_nil] at hk1
  split
  ·rename_i hw2
   have hk2 := isW_lt hw2 hk1
   simp only [List.length_cons, List.length_nil] at hk2
   refine post_then (post_and (h.expr _ hk2) (adv_post (hA.expr _ hk2))) fun a i1 ⟨g1, g2⟩ => post_must fun w1 => ?_
   have j1 := isW_lt w1 g2.2
   refine post_then (post_and (h.expr _ j1) (adv_post (hA.expr _ j1))) fun b i2 ⟨g3, g4⟩ => post_must fun w2 => ?_
   have j2 := isW_lt w2 g4.2
   refine post_then (post_and (h.expr _ j2) (adv_post (hA.expr _ j2))) fun c i3 ⟨g5, g6⟩ => post_must fun w3 => post_ok ?_
   have e1 : qualE (.mk 10 0 0 [] [a, b, c] [] (tk l (k + 1 - 1)).line 0 0) = (toksE a).length + (toksE b).length + (toksE c).length + 5 := by
    rw [qualE, toks10 rfl]
    show (wTok wOpen :: wTok wIf :: (toksE a ++ wTok wThen :: (toksE b ++ wTok wElse :: (toksE c ++ [wTok wShut])))).length + 0 = _
    simp only [List.length_cons, List.length_append, List.length_nil]; omega
   rw [e1]
   rw [lenP_0] at g1 g3 g5
   omega
  ·refine post_then (post_and (h.assoc _ hk1) (adv_post (hA.assoc _ hk1))) fun a i1 ⟨g1, g2⟩ => post_then (post_and (h.assocsL [a] i1 g2.2) (adv_post (hA.assocsL [a] i1 g2.2))) fun b i2 ⟨g3, g4⟩ => post_must fun w1 => post_ok ?_
   rw [lenAs_one] at g3
   have key : ∀ li, qualE (.mk 9 0 0 [] [] b li 0 0) + k ≤ i2 + 1 := fun li => by
    rw [qualE, toks9 rfl]
    show (wTok wOpen :: (sepT wComma (b.map toksA) ++ [wTok wShut])).length + 0 + k ≤ _
    have e2 : (sepT wComma (b.map toksA)).length = lenAs b - 1 := sepT_len _ _
    simp only [List.length_cons, List.length_append, List.length_nil, e2]
    omega
   match b, g3, key with
   | [], g3, key => exact key _
   | x :: y :: r, g3, key => exact key _
   | [x], g3, key =>
    show qualE (if x.c = [] then x.e else _) + k ≤ _
    split
    ·rename_i hc
     rw [lenAs_one, toksA_eq, hc] at g3
     have g3' : (toksE x.e).length + 1 + i1 ≤ (toksA a).length + 1 + i2 := g3
     unfold qualE
     split <;> omega
    ·exact key _
 assoc k hk := by
  refine post_then (post_and (h.choice k hk) (adv_post (hA.choice k hk))) fun c i1 ⟨⟨g1, g1'⟩, g2⟩ => ?_
  split
  ·rename_i hc
   obtain ⟨y, hy⟩ := g1' hc.1
   refine post_ok ?_
   rw [toksC_eq, if_pos hc.1, hy] at g1
   rw [toksA_eq, hy]
   exact g1
  ·split
   ·refine post_must fun w1 => ?_
    have j1 := isW_lt w1 g2.2
    refine post_then (h.expr _ j1) fun e i2 g3 => post_ok ?_
    rw [toksA_eq]
    show (toksC c ++ wTok wArrow :: toksE e).length + k ≤ _
    rw [lenP_0] at g3
    rw [List.length_append, List.length_cons]; omega
   ·refine post_then (post_and (h.choicesL [c] i1 g2.2) (adv_post (hA.choicesL [c] i1 g2.2))) fun b i2 ⟨⟨g3, g3'⟩, g4⟩ => post_must fun w1 => ?_
    have j1 := isW_lt w1 g4.2
    have hb : b ≠ [] := g3' (by simp)
    refine post_then (h.expr _ j1) fun e i3 g5 => post_ok ?_
    have e2 := lenCs_eq b hb wBar
    rw [lenCs_one] at g3
    rw [toksA_eq]
    have hbe : (As.mk b e).c.isEmpty = false := by cases b with | nil => exact absurd rfl hb | cons x r => rfl
    rw [hbe]
    show (sepT wBar (b.map toksC) ++ wTok wArrow :: toksE e).length + k ≤ _
    rw [lenP_0] at g5
    rw [List.length_append, List.length_cons]; omega
 assocsL az k hk := by
  dsimp only [stepP]
  split
  ·rename_i hw
   have := isW_lt hw hk
   simp only [List.length_cons, List.length_nil] at this
   refine post_then (post_and (h.assoc _ this) (adv_post (hA.assoc _ this))) fun a n ⟨h1, h2⟩ y k' e => ?_
   have g := h.assocsL _ n h2.2 y k' e
   rw [lenAs, lenAs, List.map_append, List.map_singleton, sumT_snoc] at g
   unfold lenAs
   omega
  ·exact post_ok (Nat.le_refl _)
 choice k hk := by
  dsimp only [stepP]
  split
  ·exact post_ok ⟨by rw [toksC_eq]; show 1 + k ≤ k + 1; omega, fun h => by cases h⟩
  ·refine post_then (post_and (h.simple k hk) (adv_post (hA.simple k hk))) fun x i1 ⟨g1, g2⟩ => ?_
   split
   ·rename_i hw
    have j1 := isW_lt hw g2.2
    refine post_then (h.simple _ j1) fun y i2 g3 => post_ok ⟨?_, fun h => by cases h⟩
    rw [toksC_eq]
    show (partE x 2 ++ wTok wDots :: partE y 2).length + k ≤ _
    rw [List.length_append, List.length_cons]
    have e1 : (partE x 2).length = lenP x 2 := rfl
    have e2 : (partE y 2).length = lenP y 2 := rfl
    omega
   ·refine post_then (h.rest x i1 g2.2) fun y i2 g3 => post_ok ⟨?_, fun _ => ⟨y, rfl⟩⟩
    rw [toksC_eq]
    show (toksE y).length + k ≤ _
    rw [lenP_0] at g3
    omega
 choicesL az k hk := by
  dsimp only [stepP]
  split
  ·rename_i hw
   have := isW_lt hw hk
   simp only [List.length_cons, List.length_nil] at this
   refine post_then (post_and (h.choice _ this) (adv_post (hA.choice _ this))) fun a n ⟨⟨h1, _⟩, h2⟩ y k' e => ?_
   have g := h.choicesL _ n h2.2 y k' e
   rw [lenCs, lenCs, List.map_append, List.map_singleton, sumT_snoc] at g
   unfold lenCs
   exact ⟨by omega, fun _ => g.2 (by simp)⟩
  ·exact post_ok ⟨Nat.le_refl _, id⟩
 arg k hk := by
  dsimp only [stepP]
  split
  ·rename_i hw
   have j0 := tk_lt (l := l) (k := k) (by rw [hw.1]; decide)
   have j1 := isW_lt hw.2 j0
   refine post_then (h.expr _ j1) fun e i1 g1 => post_ok ?_
   rw [toksA_eq]
   show (nmTok (tk l k).text :: wTok wArrow :: toksE e).length + k ≤ _
   rw [lenP_0] at g1
   rw [List.length_cons, List.length_cons]; omega
  ·refine post_then (h.expr k hk) fun e i1 g1 => post_ok ?_
   rw [toksA_eq]
   show (toksE e).length + k ≤ _
   rw [lenP_0] at g1
   exact g1
 argsL az k hk := by
  dsimp only [stepP]
  split
  ·rename_i hw
   have := isW_lt hw hk
   simp only [List.length_cons, List.length_nil] at this
   refine post_then (post_and (h.arg _ this) (adv_post (hA.arg _ this))) fun a n ⟨h1, h2⟩ y k' e => ?_
   have g := h.argsL _ n h2.2 y k' e
   rw [lenAs, lenAs, List.map_append, List.map_singleton, sumT_snoc] at g
   unfold lenAs
   omega
  ·exact post_ok (Nat.le_refl _)
 name k hk := by
  dsimp only [stepP]
  refine post_take fun hkd => ?_
  have j0 := tk_lt (l := l) (k := k) (by rw [hkd]; decide)
  intro x k' e
  have g := h.nameL _ (.mk 3 0 0 (tk l k).text [] [] (tk l k).line 0 0) (k + 1) j0 rfl x k' e
  refine ⟨?_, g.2⟩
  have e1 : (toksE (.mk 3 0 0 (tk l k).text [] [] (tk l k).line 0 0)).length = 1 := by rw [toks3 rfl]; rfl
  have := g.1
  rw [e1] at this
  omega
 nameL i x k hk hx := by
  have hn : ∀ (y : Ex) (j d : Nat), j ≤ l.length → namedE y = true → (toksE y).length + k ≤ (toksE x).length + j → Post (fun y k' => (toksE y).length + k ≤ (toksE x).length + k' ∧ namedE y = true) (p.nameL i y j) := fun y j d hj hy hl z k' e => by
   have g := h.nameL i y j hj hy z k' e
   exact ⟨by have := g.1; omega, g.2⟩
  dsimp only [stepP]
  split
  ·rename_i hw
   have j1 := isW_lt hw hk
   simp only [List.length_cons, List.length_nil] at j1
   refine hn _ _ 0 j1 rfl ?_
   rw [toks5 rfl]
   show (toksE x ++ [wTok wDot, wTok wAll]).length + k ≤ _
   rw [List.length_append]; show (toksE x).length + 2 + k ≤ _; omega
  ·split
   ·rename_i hw
    have j1 := isW_lt hw hk
    refine post_take fun hkd => ?_
    have j2 := tk_lt (l := l) (k := k + 1) (by rw [hkd]; decide)
    refine hn _ _ 0 j2 rfl ?_
    rw [toks4 rfl]
    show (toksE x ++ [wTok wDot, nmTok _]).length + k ≤ _
    rw [List.length_append]; show (toksE x).length + 2 + k ≤ _; omega
   ·split
    ·rename_i hw
     have j1 := isW_lt hw hk
     simp only [List.length_cons, List.length_nil] at j1
     refine post_then (post_and (h.arg _ j1) (adv_post (hA.arg _ j1))) fun a i1 ⟨g1, g2⟩ => post_then (post_and (h.argsL [a] i1 g2.2) (adv_post (hA.argsL [a] i1 g2.2))) fun b i2 ⟨g3, g4⟩ => post_must fun w1 => ?_
     have j2 := isW_lt w1 g4.2
     refine hn _ _ 0 j2 rfl ?_
     rw [toks7 rfl]
     show (toksE x ++ wTok wOpen :: (sepT wComma (b.map toksA) ++ [wTok wShut])).length + k ≤ _
     have e2 : (sepT wComma (b.map toksA)).length = lenAs b - 1 := sepT_len _ _
     rw [lenAs_one] at g3
     simp only [List.length_append, List.length_cons, List.length_nil, e2]
     omega
    ·split
     ·rename_i hw
      have j1 := isW_lt hw hk
      simp only [List.length_cons, List.length_nil] at j1
      have j2 : k + 1 ≤ l.length := by omega
      refine post_then (post_and (h.paren _ j2) (adv_post (hA.paren _ j2))) fun y i1 ⟨g1, g2⟩ => ?_
      refine hn _ _ 0 g2.2 rfl ?_
      rw [toks8 rfl]
      show (toksE x ++ wTok wTick :: parT (!bareK y.kind) (toksE y)).length + k ≤ _
      rw [List.length_append, List.length_cons, parT_len]
      unfold qualE at g1
      cases hb : bareK y.kind with
      | true => rw [hb] at g1; simp at g1 ⊢; omega
      | false => rw [hb] at g1; simp at g1 ⊢; omega
     ·split
      ·rename_i hw
       have j1 := isW_lt hw hk
       refine post_take fun hkd => ?_
       have j2 := tk_lt (l := l) (k := k + 1) (by rw [hkd]; decide)
       refine hn _ _ 0 j2 rfl ?_
       rw [toks6 rfl]
       show (toksE x ++ [wTok wTick, nmTok _]).length + k ≤ _
       rw [List.length_append]; show (toksE x).length + 2 + k ≤ _; omega
      ·exact post_ok ⟨Nat.le_refl _, hx⟩
theorem P_len : ∀ n, (P l n).Len l
 | 0 => by constructor <;> intros <;> intro x k' e <;> cases e
 | n + 1 => stepP_len (P_len n) (P_adv n)
end
end Go.Dl
