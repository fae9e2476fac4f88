/- The data level and the contracts of the functions that are reached (part 9). -/
import Derived.Test.YtfekogpdmjbdkaaGreatDoorPmh
set_option linter.unusedSimpArgs false
set_option linter.unusedVariables false
-- Chapter 3: the package's reader: names.
namespace Go.Dl
open Go Go.Proofs
set_option maxRecDepth 100000
section
variable {G : Nat → DVal} {H0 H H' K T B : DHeap} {r k : Nat} {l : List Tok}
theorem lastsD (hd : ∀ b, K b = none → T b = none) (w : World) : Lasts K w T w := ⟨fun b i x hb hc => ⟨hd b hb, hc⟩, Nat.le_refl _, fun _ _ => rfl⟩
theorem Seen.keepD (hd : ∀ b, K b = none → T b = none) (v : DVal) : Seen K v T v := fun w _ x hx => Rel.lasts (lastsD hd w) _ _ hx
theorem Seens.keepD (hd : ∀ b, K b = none → T b = none) (vs : List DVal) : Seens K vs T vs := fun w _ x hx => RelL.lasts (lastsD hd w) _ _ hx
theorem Seen.cellsD {e : TypeId} {size q n : Nat} {cs cs' : List DVal} (hr : T q = none) (hc : K q = some (.cells cs e)) (hl : cs.length = n * size) (hs : Seens K cs T cs') : Seen K (.oslice size q 0 n n) T (.vslice cs' n) := fun w hw x hx => by
 simp only [Rel] at hx ⊢
 obtain ⟨o, cap, rfl, h1, h2, h3, h4⟩ := hx
 refine ⟨_, cap, rfl, h2, ?_⟩
 by_cases h0 : cs = []
 ·subst h0
  have := hs w hw [] (by simp [RelL])
  cases cs' with
  | nil => exact .inl rfl
  | cons c cs' => simp [RelL] at this
 ·obtain ⟨zs, hl1, hh⟩ := hw.holds hc
  have ho : o = 0 := by
   rcases h3 with h3 | h3
   ·exfalso
    have : n = 0 := by omega
    subst this
    rw [Nat.zero_mul] at hl
    exact h0 (List.length_eq_zero_iff.1 hl)
   ·exact h3
  subst ho
  exact .inr ⟨q, 0, zs, rfl, .inr ⟨hr, fun i y hy => by simpa using hh i y hy⟩, hs w hw zs hl1⟩
theorem Seen.ownD {e : TypeId} {size n : Nat} {cs : List DVal} {v : DVal} (hd : ∀ b, K b = none → T b = none) (hT : ∀ b, B b = none → T b = none) (hv : OwnJ B e size n cs v K) : Seen K v T (.vslice cs n) := by
 rcases hv with ⟨rfl, rfl, rfl, _⟩ | ⟨q, h1, h2, rfl, h4, _⟩
 ·exact fun w _ x hx => Rel.lasts (lastsD hd w) _ _ (DLe.nil w K x hx)
 ·exact Seen.cellsD (hT q h1) h4 h2 (Seens.keepD hd _)
theorem Seens.exD {k o n : Int} {s : List UInt8} {vl va : DVal} {m : List Ex} {a : List As} {li en t : Int} (hd : ∀ b, K b = none → T b = none) (hl : Seen K vl T (dXs m)) (ha : Seen K va T (dAl a)) :
  Seens K [.int .u8 k, .int .u8 o, .int .i64 n, .str s, vl, va, .int .i64 li, .int .i64 en, .int .i64 t] T (dEx (.mk k o n s m a li en t)) := by
 rw [dEx_mk]
 exact .cons (.keepD hd _) (.cons (.keepD hd _) (.cons (.keepD hd _) (.cons (.keepD hd _) (.cons hl (.cons ha (.keepD hd _))))))
theorem Seen.as0D (hd : ∀ b, K b = none → T b = none) : Seen K .nilSlice T (dAl []) := fun w _ x hx => Rel.lasts (lastsD hd w) _ _ (DLe.nil w K x hx)
theorem Seen.exs0D (hd : ∀ b, K b = none → T b = none) : Seen K .nilSlice T (dXs []) := fun w _ x hx => Rel.lasts (lastsD hd w) _ _ (DLe.nil w K x hx)
theorem hd_at {Hb : DHeap} {r4 k' : Nat} {o z : DObj} {l : List Tok} {r : Nat} (hat : RAt r l k' Hb K) (h4 : K r4 = some o) : ∀ b, K b = none → (upd (upd Hb r (some (rdO l k'))) r4 (some z)) b = none := fun b hb => by
 simp only [upd]
 split
 ·rename_i e1; rw [e1, h4] at hb; cases hb
 ·have := Sub.lo hat hb
  simpa only [upd] using this
theorem GhostS.cell {env : Nat → DVal} {r4 : Nat} {cs cs' : List DVal} {e : TypeId} (h4 : K r4 = some (.cells cs e)) (hB : Sub B K) (hs : Seens K cs (upd B r4 (some (.cells cs' e))) cs') : GhostS G ⟨env, K⟩ ⟨env, upd B r4 (some (.cells cs' e))⟩ := fun w hH hG => by
 have hd : ∀ b, K b = none → (upd B r4 (some (.cells cs' e))) b = none := fun b hb => by
  simp only [upd]
  split
  ·rename_i e1; rw [e1, h4] at hb; cases hb
  ·exact hB.lo hb
 refine ⟨fun b o hb => ?_, fun b hb h => hb (hd b h), hG.lasts (lastsD hd w), fun i x hx => Rel.lasts (lastsD hd w) _ _ hx⟩
 simp only [upd] at hb
 split at hb
 ·rename_i e1
  subst e1
  cases hb
  obtain ⟨xs, c, fz, g1, g2, g3, g5⟩ := hH _ _ h4
  exact ⟨xs, c, fz, g1, g2, hs w hH xs g3, g5⟩
 ·exact (hH b o (hB b o hb)).lasts (lastsD hd w)
theorem RAt.up {r k k2 : Nat} {l : List Tok} {H Hb K : DHeap} (h : RAt r l k Hb K) (hab : RAt r l k2 H Hb) : RAt r l k H K := fun b o hb => by
 simp only [upd] at hb
 by_cases c : b = r
 ·rw [if_pos c] at hb
  exact h b o (by simp only [upd]; rw [if_pos c]; exact hb)
 ·rw [if_neg c] at hb
  exact h b o (by simp only [upd]; rw [if_neg c]; exact hab b o (by simp only [upd]; rw [if_neg c]; exact hb))
theorem seens_name {Hb : DHeap} {r4 q k' : Nat} {x : Ex} {e : TypeId} {o : DObj} {z : DObj} {l : List Tok} {r : Nat} {va : DVal} {a : List As} {kd li : Int} {s : List UInt8} (hat : RAt r l k' Hb K) (h4 : K r4 = some o) (hq : Hb q = none) (hqr : q ≠ r) (hq4 : q ≠ r4) (hK : K q = some (.cells (dEx x) e)) (ha : ∀ T, (∀ b, K b = none → T b = none) → Seen K va T (dAl a)) :
  Seens K [.int .u8 kd, .int .u8 0, .int .i64 0, .str s, .oslice 9 q 0 1 1, va, .int .i64 li, .int .i64 0, .int .i64 0] (upd (upd Hb r (some (rdO l k'))) r4 (some z)) (dEx (.mk kd 0 0 s [x] a li 0 0)) := by
 have hd : ∀ b, K b = none → (upd (upd Hb r (some (rdO l k'))) r4 (some z)) b = none := fun b hb => by
  simp only [upd]
  split
  ·rename_i e1; rw [e1, h4] at hb; cases hb
  ·have := Sub.lo hat hb
   simpa only [upd] using this
 refine Seens.exD hd ?_ (ha _ hd)
 show Seen K _ _ (.vslice ([x].flatMap dEx) 1)
 rw [List.flatMap_singleton]
 exact Seen.cellsD (by simp only [upd]; rw [if_neg hq4, if_neg hqr]; exact hq) hK (by rw [dEx_len]) (Seens.keepD hd _)
theorem seens_qual {Hb B : DHeap} {r4 k' : Nat} {x y : Ex} {e : TypeId} {o : DObj} {z : DObj} {l : List Tok} {r : Nat} {v : DVal} {kd li : Int} {s : List UInt8} (hat : RAt r l k' Hb K) (h4 : K r4 = some o) (hB : RAt r l k' Hb B) (hB4 : B r4 ≠ none) (hv : OwnJ B e 9 2 ([x, y].flatMap dEx) v K) :
  Seens K [.int .u8 kd, .int .u8 0, .int .i64 0, .str s, v, .nilSlice, .int .i64 li, .int .i64 0, .int .i64 0] (upd (upd Hb r (some (rdO l k'))) r4 (some z)) (dEx (.mk kd 0 0 s [x, y] [] li 0 0)) := by
 have key : ∀ K' : DHeap, RAt r l k' Hb K' → K' r4 ≠ none → ∀ b, K' b = none → (upd (upd Hb r (some (rdO l k'))) r4 (some z)) b = none := fun K' ht h4 b hb => by
  simp only [upd]
  split
  ·rename_i e1; rw [e1] at hb; exact absurd hb h4
  ·have := Sub.lo ht hb
   simpa only [upd] using this
 have hd := key K hat (by rw [h4]; simp)
 exact Seens.exD hd (Seen.ownD hd (key B hB hB4) hv) (.as0D hd)
end
section
variable {G : Nat → DVal} {H0 H H' : DHeap} {r k : Nat} {l : List Tok}
set_option maxHeartbeats 4000000 in
theorem name_step (hG : GX G) (hl : l.length ≤ 800000) (n : Nat) (hga : ∀ m ≤ n, RdC Tryz.prog G l 157 r fun k => ((P l m).arg k).mp dA) (hgp : ∀ m ≤ n, RdC Tryz.prog G l 127 r fun k => ((P l m).paren k).mp dE) : RdC Tryz.prog G l 69 r fun k => ((P l (n + 1)).name k).mp dE := by
 intro H k hr hk hn
 obtain ⟨t, ht⟩ : ∃ t, t = tk l k := ⟨_, rfl⟩
 have e : (P l (n + 1)).name k = takeN l k fun s k1 => (P l n).nameL (tk l k).line (.mk 3 0 0 s [] [] (tk l k).line 0 0) k1 := rfl
 dsimp only at hn ⊢
 rw [e, takeN, ← ht] at hn ⊢
 refine dcalls_intro Tryz.func69 Tryz.call69 rfl (by kernel_rfl) ?_
 simp (disch := omega) only [go_sem]
 intro r2 hr2; dsimp only at hr2
 obtain ⟨Ha, hHa⟩ : ∃ K, K = upd H r2 (some (.cells [.int .u8 0, .int .u8 0, .int .i64 0, .str [], .nilSlice, .nilSlice, .int .i64 0, .int .i64 0, .int .i64 0] 27)) := ⟨_, rfl⟩
 rw [← hHa]
 have gr2 : Ha r2 = some (.cells [.int .u8 0, .int .u8 0, .int .i64 0, .str [], .nilSlice, .nilSlice, .int .i64 0, .int .i64 0, .int .i64 0] 27) := by rw [hHa]; exact upd_same _ _ _
 have n2 : r ≠ r2 := none_ne hr2 hr
 have q2 := n2.symm
 have ha : RAt r l k H Ha := by rw [hHa]; exact (RAt.refl hr).new hr2 _
 simp (disch := omega) only [go_sem]
 refine (take_spec G Ha 1 ha.get (by omega) (by omega)).mono ?_
 intro e1 H1 hq
 rw [← ht] at hq
 by_cases c : t.kind = 1
 ·rw [if_pos c] at hn hq ⊢
  obtain ⟨rfl, hH1⟩ := hq
  have hk1 : k + 1 ≤ l.length := tk_lt (by rw [← ht, c]; decide)
  have ha1 : RAt r l (k + 1) H H1 := by rw [hH1]; exact ha.set _
  have g12 : H1 r2 = some (.cells [.int .u8 0, .int .u8 0, .int .i64 0, .str [], .nilSlice, .nilSlice, .int .i64 0, .int .i64 0, .int .i64 0] 27) := by rw [hH1]; exact keepU gr2 q2
  simp (disch := omega) only [go_sem, dTok]
  intro r3 hr3; dsimp only at hr3
  have n23 : r2 ≠ r3 := none_ne hr3 g12
  have n3 : r ≠ r3 := none_ne hr3 ha1.get
  have q3 := n3.symm
  have h30 : H r3 = none := ha1.lo hr3
  simp (disch := omega) only [go_sem]
  obtain ⟨Hb, hHb⟩ : ∃ K, K = upd H1 r3 (some (.cells [.int .u8 t.kind, dI t.line, .str t.text, dI t.n] 52)) := ⟨_, rfl⟩
  rw [← hHb]
  have gb3 : Hb r3 = some (.cells [.int .u8 t.kind, dI t.line, .str t.text, dI t.n] 52) := by rw [hHb]; exact upd_same _ _ _
  have gb2 : Hb r2 = some (.cells [.int .u8 0, .int .u8 0, .int .i64 0, .str [], .nilSlice, .nilSlice, .int .i64 0, .int .i64 0, .int .i64 0] 27) := by rw [hHb]; exact keepU g12 n23
  have hab : RAt r l (k + 1) H Hb := by rw [hHb]; exact ha1.new hr3 _
  intro r4 hr4; dsimp only at hr4
  have n24 : r2 ≠ r4 := none_ne hr4 gb2
  have n34 : r3 ≠ r4 := none_ne hr4 gb3
  have n4 : r ≠ r4 := none_ne hr4 hab.get
  have q4 := n4.symm
  simp (disch := omega) only [go_sem, dEx_mk, List.flatMap_nil, List.length_nil]
  obtain ⟨x0, hx0⟩ : ∃ x0, x0 = Ex.mk 3 0 0 t.text [] [] t.line 0 0 := ⟨_, rfl⟩
  have hdx0 : dEx x0 = [.int .u8 3, .int .u8 0, .int .i64 0, .str t.text, .vslice [] 0, .vslice [] 0, .int .i64 t.line, .int .i64 0, .int .i64 0] := by rw [hx0, dEx_mk]; rfl
  rw [← hx0] at hn ⊢
  obtain ⟨n', rfl⟩ : ∃ n', n = n' + 1 := by
   cases n with
   | zero => exact absurd rfl hn
   | succ n' => exact ⟨n', rfl⟩
  obtain ⟨res, hres⟩ : ∃ res, res = (P l (n' + 1)).nameL t.line x0 (k + 1) := ⟨_, rfl⟩
  rw [← hres] at hn ⊢
  have hT : ∀ x k' b o, b ≠ r4 → upd Hb r (some (rdO l k')) b = some o → upd (upd Hb r (some (rdO l k'))) r4 (some (.cells (dEx x) 27)) b = some o := fun x k' b o hb h => by rw [upd_ne _ _ _ _ hb]; exact h
  obtain ⟨I, hI⟩ : ∃ I : Nat × Ex × Nat → (Nat → DVal) → DHeap → Prop, ∀ s env heap, I s env heap ↔ (env 0 = .optr r 0 ∧ env 2 = .optr r2 0 ∧ env 3 = .optr r3 0 ∧ env 4 = .optr r4 0 ∧ s.2.2 ≤ l.length ∧ s.1 ≤ n' ∧ res = (P l (s.1 + 1)).nameL t.line s.2.1 s.2.2 ∧ heap = upd (upd Hb r (some (rdO l s.2.2))) r4 (some (.cells (dEx s.2.1) 27))) := ⟨_, fun _ _ _ => Iff.rfl⟩
  have hat0 : RAt r l (k + 1) Hb (upd Hb r4 (some (.cells [.int .u8 3, .int .u8 0, .int .i64 0, .str t.text, .nilSlice, .nilSlice, .int .i64 t.line, .int .i64 0, .int .i64 0] 27))) := (RAt.refl hab.get).own hr4 q4 _
  refine DLoop.runG I (fun s => s.1) (n', x0, k + 1) ⟨_, upd (upd Hb r (some (rdO l (k + 1)))) r4 (some (.cells (dEx x0) 27))⟩ (GhostS.cell (upd_same _ _ _) hat0 ?_) ((hI _ _ _).2 ?_) ?_
  ·rw [hx0]
   exact Seens.exD (hd_at hat0 (upd_same _ _ _)) (.exs0D (hd_at hat0 (upd_same _ _ _))) (.as0D (hd_at hat0 (upd_same _ _ _)))
  ·simp (disch := omega) only [go_sem]
  ·rintro ⟨m, x, k1⟩ env heap hi'
   obtain ⟨e0, e2, e3, e4, hk1', hm, hr', hh⟩ := (hI _ _ _).1 hi'
   dsimp only at hk1' hm hr' hh
   have eP : (P l (m + 1)).nameL t.line x k1 = if isW l k1 [wDot, wAll] then (P l m).nameL t.line (.mk 5 0 0 [] [x] [] t.line 0 0) (k1 + 2) else if isW l k1 [wDot] then takeN l (k1 + 1) fun s k => (P l m).nameL t.line (.mk 4 0 0 s [x] [] t.line 0 0) k
     else if isW l k1 [wOpen] then ((P l m).arg (k1 + 1)).then fun a k => ((P l m).argsL [a] k).then fun xs k => must l wShut k fun k => (P l m).nameL t.line (.mk 7 0 0 [] [x] xs t.line 0 0) k
     else if isW l k1 [wTick, wOpen] then ((P l m).paren (k1 + 1)).then fun y k => (P l m).nameL t.line (.mk 8 0 0 [] [x, y] [] t.line 0 0) k
     else if isW l k1 [wTick] then takeN l (k1 + 1) fun s k => (P l m).nameL t.line (.mk 6 0 0 s [x] [] t.line 0 0) k else .ok x k1 := rfl
   rw [eP] at hr'
   have hat : RAt r l k1 Hb heap := by rw [hh]; exact ((RAt.refl hab.get).set k1).own hr4 q4 _
   have h4 : heap r4 = some (.cells (dEx x) 27) := by rw [hh]; exact upd_same _ _ _
   have h3 : heap r3 = some (.cells [.int .u8 t.kind, dI t.line, .str t.text, dI t.n] 52) := hat _ _ (by rw [upd_ne _ _ _ _ q3]; exact gb3)
   have hlx := dEx_len x
   simp (disch := omega) only [go_sem, e0, e2, e3, e4, h4, h3]
   rw [cells1Ex hlx]
   simp (disch := omega) only [go_sem, e0, e2, e3, e4, h4, h3]
   intro q hq0; dsimp only at hq0
   have p3 : r3 ≠ q := none_ne hq0 h3
   have p4 : r4 ≠ q := none_ne hq0 h4
   have pr : r ≠ q := none_ne hq0 hat.get
   have hbq : Hb q = none := hat.lo hq0
   simp (disch := omega) only [go_sem, e0, e2, e3, e4, h4, h3, p3, p4]
   intro r5 hr5; dsimp only at hr5
   obtain ⟨m5, m5', hr5'⟩ := upd_eq_none.1 hr5
   have p54 : r4 ≠ r5 := none_ne hr5' h4
   have p5r : r ≠ r5 := none_ne hr5' hat.get
   have hb5 : Hb r5 = none := hat.lo hr5'
   simp (disch := omega) only [go_sem, e0, e2, e3, e4, h4, h3, p3, p4]
   have m5q : q ≠ r5 := by first | exact m5 | exact m5'
   obtain ⟨K1, hK1⟩ : ∃ K, K = upd (upd heap q (some (.cells (dEx x) 27))) r5 (some (.cells [.int .u8 0, .int .u8 0, .int .i64 0, .str [], .oslice 9 q 0 1 1, .nilSlice, .int .i64 t.line, .int .i64 0, .int .i64 0] 27)) := ⟨_, rfl⟩
   rw [← hK1]
   have ha1 : RAt r l k1 Hb K1 := by rw [hK1]; exact (hat.new hq0 _).new hr5 _
   have g15 : K1 r5 = some (.cells [.int .u8 0, .int .u8 0, .int .i64 0, .str [], .oslice 9 q 0 1 1, .nilSlice, .int .i64 t.line, .int .i64 0, .int .i64 0] 27) := by rw [hK1]; exact upd_same _ _ _
   have g1q : K1 q = some (.cells (dEx x) 27) := by rw [hK1]; exact keepU (upd_same _ _ _) m5q
   have g14 : K1 r4 = some (.cells (dEx x) 27) := by rw [hK1]; exact keepU (keepU h4 p4) p54
   have g12' : K1 r2 = some (.cells [.int .u8 0, .int .u8 0, .int .i64 0, .str [], .nilSlice, .nilSlice, .int .i64 0, .int .i64 0, .int .i64 0] 27) := ha1 _ _ (by rw [upd_ne _ _ _ _ q2]; exact gb2)
   intro w1 hw1; dsimp only at hw1
   simp (disch := omega) only [go_sem]
   refine (may2 hG K1 w1 wDot wAll hw1 ha1.get (by omega) (by omega)).mono ?_
   rintro _ H2 ⟨rfl, hH2⟩
   by_cases b1 : isW l k1 [wDot, wAll] = true
   ·rw [if_pos b1] at hH2 hr'
    have hk2 := isW_lt b1 hk1'
    rw [show [wDot, wAll].length = 2 from rfl] at hk2
    have haK : RAt r l (k1 + 2) Hb H2 := by rw [hH2]; exact ha1.set _
    have hH25 : H2 r5 = some (.cells [.int .u8 0, .int .u8 0, .int .i64 0, .str [], .oslice 9 q 0 1 1, .nilSlice, .int .i64 t.line, .int .i64 0, .int .i64 0] 27) := by rw [hH2]; exact keepU g15 p5r.symm
    have hH24 : H2 r4 = some (.cells (dEx x) 27) := by rw [hH2]; exact keepU g14 q4
    have hH2q : H2 q = some (.cells (dEx x) 27) := by rw [hH2]; exact keepU g1q pr.symm
    have hH22 : H2 r2 = some (.cells [.int .u8 0, .int .u8 0, .int .i64 0, .str [], .nilSlice, .nilSlice, .int .i64 0, .int .i64 0, .int .i64 0] 27) := by rw [hH2]; exact keepU g12' q2
    obtain ⟨m', rfl⟩ : ∃ m', m = m' + 1 := by
     cases m with
     | zero => rw [hr'] at hn; exact absurd rfl hn
     | succ m' => exact ⟨m', rfl⟩
    simp (disch := omega) only [go_sem, b1, e0, e2, e3, e4, hH25, hH24, p54]
    have hatf := fun z z' => (haK.own hb5 p5r.symm z).own hr4 q4 z'
    have hqf := fun z z' => keepU (y := z') (keepU (y := z) hH2q m5q) p4.symm
    refine ⟨(m', .mk 5 0 0 [] [x] [] t.line 0 0, k1 + 2), _, GhostS.cell (upd_same _ _ _) (hatf _ _) (seens_name (a := []) (hatf _ _) (upd_same _ _ _) hbq pr.symm p4.symm (hqf _ _) (fun T hd => .as0D hd)), (hI _ _ _).2 ?_, by dsimp only; omega⟩
    simp (disch := omega) only [go_sem, e0, e2, e3, e4]
   ·have b1' : isW l k1 [wDot, wAll] = false := by simpa using b1
    rw [if_neg b1, upd_get ha1.get] at hH2
    rw [if_neg b1] at hr'
    rw [hH2]
    simp (disch := omega) only [go_sem, b1', e0, e2, e3, e4]
    intro w2 hw2; dsimp only at hw2
    simp (disch := omega) only [go_sem]
    refine (may1 hG K1 w2 wDot hw2 ha1.get (by omega) (by omega)).mono ?_
    rintro _ H3 ⟨rfl, hH3⟩
    by_cases b2 : isW l k1 [wDot] = true
    ·rw [if_pos b2] at hH3 hr'
     have hk2 := isW_lt b2 hk1'
     rw [List.length_singleton] at hk2
     have haK : RAt r l (k1 + 1) Hb H3 := by rw [hH3]; exact ha1.set _
     have hH35 : H3 r5 = some (.cells [.int .u8 0, .int .u8 0, .int .i64 0, .str [], .oslice 9 q 0 1 1, .nilSlice, .int .i64 t.line, .int .i64 0, .int .i64 0] 27) := by rw [hH3]; exact keepU g15 p5r.symm
     have hH34 : H3 r4 = some (.cells (dEx x) 27) := by rw [hH3]; exact keepU g14 q4
     have hH3q : H3 q = some (.cells (dEx x) 27) := by rw [hH3]; exact keepU g1q pr.symm
     have hH32 : H3 r2 = some (.cells [.int .u8 0, .int .u8 0, .int .i64 0, .str [], .nilSlice, .nilSlice, .int .i64 0, .int .i64 0, .int .i64 0] 27) := by rw [hH3]; exact keepU g12' q2
     simp (disch := omega) only [go_sem, b2, e0, e2, e3, e4]
     have hbr : ∃ t2, t2 = tk l (k1 + 1) := ⟨_, rfl⟩
     obtain ⟨t2, ht2⟩ := hbr
     unfold takeN at hr'
     refine (take_spec G H3 1 haK.get (by omega) (by omega)).mono ?_
     intro e1 H9 hq9
     rw [← ht2] at hq9 hr'
     by_cases c9 : t2.kind = 1
     ·rw [if_pos c9] at hq9 hr'
      obtain ⟨rfl, hH9⟩ := hq9
      have hk9 : k1 + 2 ≤ l.length := tk_lt (by rw [← ht2, c9]; decide)
      have haL : RAt r l (k1 + 2) Hb H9 := by rw [hH9]; exact haK.set _
      have hH95 : H9 r5 = some (.cells [.int .u8 0, .int .u8 0, .int .i64 0, .str [], .oslice 9 q 0 1 1, .nilSlice, .int .i64 t.line, .int .i64 0, .int .i64 0] 27) := by rw [hH9]; exact keepU hH35 p5r.symm
      have hH94 : H9 r4 = some (.cells (dEx x) 27) := by rw [hH9]; exact keepU hH34 q4
      have hH9q : H9 q = some (.cells (dEx x) 27) := by rw [hH9]; exact keepU hH3q pr.symm
      obtain ⟨m', rfl⟩ : ∃ m', m = m' + 1 := by
       cases m with
       | zero => rw [hr'] at hn; exact absurd rfl hn
       | succ m' => exact ⟨m', rfl⟩
      simp (disch := omega) only [go_sem, dTok, e0, e2, e3, e4, hH95, hH94, p54]
      have hatf := fun z z' => (haL.own hb5 p5r.symm z).own hr4 q4 z'
      have hqf := fun z z' => keepU (y := z') (keepU (y := z) hH9q m5q) p4.symm
      refine ⟨(m', .mk 4 0 0 t2.text [x] [] t.line 0 0, k1 + 2), _, GhostS.cell (upd_same _ _ _) (hatf _ _) (seens_name (a := []) (hatf _ _) (upd_same _ _ _) hbq pr.symm p4.symm (hqf _ _) (fun T hd => .as0D hd)), (hI _ _ _).2 ?_, by dsimp only; omega⟩
      simp (disch := omega) only [go_sem, e0, e2, e3, e4]
     ·rw [if_neg c9] at hq9 hr'
      obtain ⟨rfl, hH9⟩ := hq9
      simp (disch := omega) only [go_sem]
      rw [hr']
      exact RAt.finP (by rw [hH9]; exact RAt.up (haK.set _) hab) ⟨rfl, rfl⟩
    ·have b2' : isW l k1 [wDot] = false := by simpa using b2
     rw [if_neg b2, upd_get ha1.get] at hH3
     rw [if_neg b2] at hr'
     rw [hH3]
     simp (disch := omega) only [go_sem, b2', e0, e2, e3, e4]
     intro w3 hw3; dsimp only at hw3
     simp (disch := omega) only [go_sem]
     refine (may1 hG K1 w3 wOpen hw3 ha1.get (by omega) (by omega)).mono ?_
     rintro _ H4 ⟨rfl, hH4⟩
     by_cases b3 : isW l k1 [wOpen] = true
     ·rw [if_pos b3] at hH4 hr'
      have hk2 := isW_lt b3 hk1'
      rw [List.length_singleton] at hk2
      have haK : RAt r l (k1 + 1) Hb H4 := by rw [hH4]; exact ha1.set _
      have hH45 : H4 r5 = some (.cells [.int .u8 0, .int .u8 0, .int .i64 0, .str [], .oslice 9 q 0 1 1, .nilSlice, .int .i64 t.line, .int .i64 0, .int .i64 0] 27) := by rw [hH4]; exact keepU g15 p5r.symm
      have hH44 : H4 r4 = some (.cells (dEx x) 27) := by rw [hH4]; exact keepU g14 q4
      have hH4q : H4 q = some (.cells (dEx x) 27) := by rw [hH4]; exact keepU g1q pr.symm
      have hH42 : H4 r2 = some (.cells [.int .u8 0, .int .u8 0, .int .i64 0, .str [], .nilSlice, .nilSlice, .int .i64 0, .int .i64 0, .int .i64 0] 27) := by rw [hH4]; exact keepU g12' q2
      simp (disch := omega) only [go_sem, b3, e0, e2, e3, e4]
      have hth : ∀ (a : Res As) (f : As → Nat → Res (List As)) (g : List As → Nat → Res Ex), (a.then fun x k => (f x k).then g) = (a.then f).then g := fun a f g => by cases a <;> rfl
      rw [hth] at hr'
      have hargs := args_spec hG hl m (fun i hi => hga i (by omega)) H4 (k1 + 1) haK.get hk2
      dsimp only at hargs
      cases hcc : (((P l m).arg (k1 + 1)).then fun a k => (P l m).argsL [a] k) with
      | bot => rw [hcc, then_bot] at hr'; rw [hr'] at hn; exact absurd rfl hn
      | fail k3 =>
       rw [hcc] at hargs
       rw [hcc, then_fail] at hr'
       refine (hargs (mp_ne (by simp))).mono ?_
       rintro e H7 ⟨rfl, hH7⟩
       simp (disch := omega) only [go_sem]
       rw [hr']
       exact RAt.finP (by rw [hH7]; exact RAt.up (haK.set _) hab) ⟨rfl, rfl⟩
      | ok xs k3 =>
       rw [hcc] at hargs
       rw [hcc, then_ok] at hr'
       have hk3 : k3 ≤ l.length := by
        have := adv_then ((P_adv (l := l) m).arg (k1 + 1) hk2) (fun a j h1 h2 => adv_less ((P_adv (l := l) m).argsL [a] j h2) h1)
        rw [hcc] at this
        exact this.2
       refine (hargs (mp_ne (by simp))).mono ?_
       rintro e H7 ⟨rfl, hH7⟩
       have ha7 : RAt r l k3 Hb H7 := by rw [hH7]; exact haK.set _
       have hH75 : H7 r5 = some (.cells [.int .u8 0, .int .u8 0, .int .i64 0, .str [], .oslice 9 q 0 1 1, .nilSlice, .int .i64 t.line, .int .i64 0, .int .i64 0] 27) := by rw [hH7]; exact keepU hH45 p5r.symm
       have hH74 : H7 r4 = some (.cells (dEx x) 27) := by rw [hH7]; exact keepU hH44 q4
       have hH7q : H7 q = some (.cells (dEx x) 27) := by rw [hH7]; exact keepU hH4q pr.symm
       simp (disch := omega) only [go_sem, dAl, e0, e2, e3, e4, hH75]
       obtain ⟨H8, hH8⟩ : ∃ K, K = upd H7 r5 (some (.cells [.int .u8 7, .int .u8 0, .int .i64 0, .str [], .oslice 9 q 0 1 1, .vslice (xs.flatMap dAs) xs.length, .int .i64 t.line, .int .i64 0, .int .i64 0] 27)) := ⟨_, rfl⟩
       rw [← hH8]
       have ha8 : RAt r l k3 Hb H8 := by rw [hH8]; exact ha7.own hb5 p5r.symm _
       have g85 : H8 r5 = some (.cells [.int .u8 7, .int .u8 0, .int .i64 0, .str [], .oslice 9 q 0 1 1, .vslice (xs.flatMap dAs) xs.length, .int .i64 t.line, .int .i64 0, .int .i64 0] 27) := by rw [hH8]; exact upd_same _ _ _
       have g84 : H8 r4 = some (.cells (dEx x) 27) := by rw [hH8]; exact keepU hH74 p54
       have g8q : H8 q = some (.cells (dEx x) 27) := by rw [hH8]; exact keepU hH7q m5q
       refine (must_spec hG H8 wShut ha8.get (by omega) (by omega)).mono ?_
       intro e1 H9 hq9
       unfold must at hq9 hr'
       by_cases c9 : isW l k3 [wShut] = true
       ·rw [if_pos c9] at hq9 hr'
        obtain ⟨rfl, hH9⟩ := hq9
        have hk9 := isW_lt c9 hk3
        rw [List.length_singleton] at hk9
        have haL : RAt r l (k3 + 1) Hb H9 := by rw [hH9]; exact ha8.set _
        have g95 : H9 r5 = some (.cells [.int .u8 7, .int .u8 0, .int .i64 0, .str [], .oslice 9 q 0 1 1, .vslice (xs.flatMap dAs) xs.length, .int .i64 t.line, .int .i64 0, .int .i64 0] 27) := by rw [hH9]; exact keepU g85 p5r.symm
        have g94 : H9 r4 = some (.cells (dEx x) 27) := by rw [hH9]; exact keepU g84 q4
        have g9q : H9 q = some (.cells (dEx x) 27) := by rw [hH9]; exact keepU g8q pr.symm
        dsimp only at hr'
        obtain ⟨m', rfl⟩ : ∃ m', m = m' + 1 := by
         cases m with
         | zero => rw [hr'] at hn; exact absurd rfl hn
         | succ m' => exact ⟨m', rfl⟩
        simp (disch := omega) only [go_sem, e0, e2, e3, e4, g95, g94, p54]
        have hatf := fun z' => haL.own hr4 q4 z'
        have hqf := fun z' => keepU (y := z') g9q p4.symm
        refine ⟨(m', .mk 7 0 0 [] [x] xs t.line 0 0, k3 + 1), _, GhostS.cell (upd_same _ _ _) (hatf _) (seens_name (a := xs) (hatf _) (upd_same _ _ _) hbq pr.symm p4.symm (hqf _) (fun T hd => Seen.keepD hd _)), (hI _ _ _).2 ?_, by dsimp only; omega⟩
        simp (disch := omega) only [go_sem, e0, e2, e3, e4]
       ·rw [if_neg c9] at hq9 hr'
        obtain ⟨rfl, hH9⟩ := hq9
        simp (disch := omega) only [go_sem]
        rw [hr']
        exact RAt.finP (by rw [hH9]; exact RAt.up (ha8.set _) hab) ⟨rfl, rfl⟩
     ·have b3' : isW l k1 [wOpen] = false := by simpa using b3
      rw [if_neg b3, upd_get ha1.get] at hH4
      rw [if_neg b3] at hr'
      rw [hH4]
      simp (disch := omega) only [go_sem, b3', e0, e2, e3, e4]
      intro w4 hw4; dsimp only at hw4
      simp (disch := omega) only [go_sem]
      refine (is2 hG K1 w4 wTick wOpen hw4 ha1.get (by omega) (by omega)).mono ?_
      rintro _ H5 ⟨rfl, hH5⟩
      rw [hH5]
      by_cases b4 : isW l k1 [wTick, wOpen] = true
      ·rw [if_pos b4] at hr'
       have hk2 := isW_lt b4 hk1'
       rw [show [wTick, wOpen].length = 2 from rfl] at hk2
       have gr := ha1.get
       unfold rdO at gr
       have hw1' : IntKind.i64.wrap ((k1 : Int) + 1) = ((k1 + 1 : Nat) : Int) := by rw [IntKind.wrap_i64]; omega
       simp (disch := omega) only [go_sem, b4, e0, e2, e3, e4, gr, hw1']
       obtain ⟨H6, hH6⟩ : ∃ H6, H6 = upd K1 r (some (rdO l (k1 + 1))) := ⟨_, rfl⟩
       have hH6' := hH6
       unfold rdO at hH6'
       rw [← hH6']
       have haK : RAt r l (k1 + 1) Hb H6 := by rw [hH6]; exact ha1.set _
       have hH65 : H6 r5 = some (.cells [.int .u8 0, .int .u8 0, .int .i64 0, .str [], .oslice 9 q 0 1 1, .nilSlice, .int .i64 t.line, .int .i64 0, .int .i64 0] 27) := by rw [hH6]; exact keepU g15 p5r.symm
       have hH64 : H6 r4 = some (.cells (dEx x) 27) := by rw [hH6]; exact keepU g14 q4
       have hH6q : H6 q = some (.cells (dEx x) 27) := by rw [hH6]; exact keepU g1q pr.symm
       have hH62 : H6 r2 = some (.cells [.int .u8 0, .int .u8 0, .int .i64 0, .str [], .nilSlice, .nilSlice, .int .i64 0, .int .i64 0, .int .i64 0] 27) := by rw [hH6]; exact keepU g12' q2
       refine dwp_draws (by kernel_rfl) (.take 0 (.take 1 (.take 2 (.take 6 (.go 3 [1] (.go 4 [1] (.go 5 [] (.go 7 [] (.take 8 (.go 9 [] .done)))))))))) (by kernel_rfl) ?_
       simp (disch := omega) only [go_sem, e0, e2, e3, e4, hH65]
       have hpp := hgp m (by omega) H6 (k1 + 1) haK.get (by omega)
       have had := (P_adv (l := l) m).paren (k1 + 1) (by omega)
       dsimp only at hpp
       cases hcc : (P l m).paren (k1 + 1) with
       | bot => rw [hcc, then_bot] at hr'; rw [hr'] at hn; exact absurd rfl hn
       | fail k3 =>
        rw [hcc] at hpp
        rw [hcc, then_fail] at hr'
        refine (hpp (mp_ne (by simp))).mono ?_
        rintro e H7 ⟨rfl, hH7⟩
        simp (disch := omega) only [go_sem]
        rw [hr']
        exact RAt.finP (by rw [hH7]; exact RAt.up (haK.set _) hab) ⟨rfl, rfl⟩
       | ok y k3 =>
        rw [hcc] at hpp had
        rw [hcc, then_ok] at hr'
        dsimp only [Adv] at had
        refine (hpp (mp_ne (by simp))).mono ?_
        rintro e H7 ⟨rfl, hH7⟩
        have ha7 : RAt r l k3 Hb H7 := by rw [hH7]; exact haK.set _
        have hH75 : H7 r5 = some (.cells [.int .u8 0, .int .u8 0, .int .i64 0, .str [], .oslice 9 q 0 1 1, .nilSlice, .int .i64 t.line, .int .i64 0, .int .i64 0] 27) := by rw [hH7]; exact keepU hH65 p5r.symm
        have hH74 : H7 r4 = some (.cells (dEx x) 27) := by rw [hH7]; exact keepU hH64 q4
        have hH7q : H7 q = some (.cells (dEx x) 27) := by rw [hH7]; exact keepU hH6q pr.symm
        have hly := dEx_len y
        simp (disch := omega) only [go_sem, dE, e0, e2, e3, e4, hH65, hH75]
        rw [cells1Ex hly]
        simp (disch := omega) only [go_sem, e0, e2, e3, e4, hH65, hH75]
        intro r8 hr8; dsimp only at hr8
        have p8 : q ≠ r8 := none_ne hr8 hH7q
        have p85 : r5 ≠ r8 := none_ne hr8 hH75
        simp (disch := omega) only [go_sem, e0, e2, e3, e4, hH65, hH75, p85]
        rw [if_neg p8, hH7q]
        obtain ⟨Bq, hBq⟩ : ∃ K, K = upd H7 q none := ⟨_, rfl⟩
        have hsB : Sub Bq H7 := by
         rw [hBq]
         intro b o hb
         simp only [upd] at hb
         split at hb
         ·cases hb
         ·exact hb
        have haB : RAt r l k3 Hb Bq := by rw [hBq]; exact ha7.own hbq pr.symm none
        have hB5 : Bq r5 = some (.cells [.int .u8 0, .int .u8 0, .int .i64 0, .str [], .oslice 9 q 0 1 1, .nilSlice, .int .i64 t.line, .int .i64 0, .int .i64 0] 27) := by rw [hBq]; exact keepU hH75 m5q.symm
        have hB4 : Bq r4 = some (.cells (dEx x) 27) := by rw [hBq]; exact keepU hH74 p4
        have hv0 : OwnJ Bq 27 9 1 (dEx x) (.oslice 9 q 0 1 1) H7 := .inr ⟨q, by rw [hBq]; exact upd_same _ _ _, by rw [hlx], rfl, hH7q, hsB⟩
        refine OwnJ.appendO (m := 1) (hv0.new hr8 _) hly (by omega) fun v2 H10 hv2 => ?_
        have g105 := hv2.keep hB5
        have g104 := hv2.keep hB4
        obtain ⟨j1, j2⟩ := hv2.cell1
        obtain ⟨m', rfl⟩ : ∃ m', m = m' + 1 := by
         cases m with
         | zero => rw [hr'] at hn; exact absurd rfl hn
         | succ m' => exact ⟨m', rfl⟩
        simp (disch := omega) only [go_sem, e0, e2, e3, e4, g105, g104, p54, j1, j2]
        have hv3 := fun z z' => (hv2.at hB5 (some z)).at (r := r4) (by rw [upd_ne _ _ _ _ p54]; exact hB4) (some z')
        have haf := fun z z' => (haB.own hb5 p5r.symm (some z)).own hr4 q4 (some z')
        refine ⟨(m', .mk 8 0 0 [] [x, y] [] t.line 0 0, k3), _, GhostS.cell (upd_same _ _ _) (Sub.trans (haf _ _) (hv3 _ _).sub) (seens_qual (Sub.trans (haf _ _) (hv3 _ _).sub) (upd_same _ _ _) (haf _ _) (by rw [upd_same]; simp) (by rw [show [x, y].flatMap dEx = dEx x ++ dEx y by simp]; exact hv3 _ _)), (hI _ _ _).2 ?_, by dsimp only; omega⟩
        simp (disch := omega) only [go_sem, e0, e2, e3, e4]
      ·have b4' : isW l k1 [wTick, wOpen] = false := by simpa using b4
       rw [if_neg b4] at hr'
       simp (disch := omega) only [go_sem, b4', e0, e2, e3, e4]
       intro w5 hw5; dsimp only at hw5
       simp (disch := omega) only [go_sem]
       refine (may1 hG K1 w5 wTick hw5 ha1.get (by omega) (by omega)).mono ?_
       rintro _ H6 ⟨rfl, hH6⟩
       by_cases b5 : isW l k1 [wTick] = true
       ·rw [if_pos b5] at hH6 hr'
        have hk2 := isW_lt b5 hk1'
        rw [List.length_singleton] at hk2
        have haK : RAt r l (k1 + 1) Hb H6 := by rw [hH6]; exact ha1.set _
        have hH65 : H6 r5 = some (.cells [.int .u8 0, .int .u8 0, .int .i64 0, .str [], .oslice 9 q 0 1 1, .nilSlice, .int .i64 t.line, .int .i64 0, .int .i64 0] 27) := by rw [hH6]; exact keepU g15 p5r.symm
        have hH64 : H6 r4 = some (.cells (dEx x) 27) := by rw [hH6]; exact keepU g14 q4
        have hH6q : H6 q = some (.cells (dEx x) 27) := by rw [hH6]; exact keepU g1q pr.symm
        have hH62 : H6 r2 = some (.cells [.int .u8 0, .int .u8 0, .int .i64 0, .str [], .nilSlice, .nilSlice, .int .i64 0, .int .i64 0, .int .i64 0] 27) := by rw [hH6]; exact keepU g12' q2
        simp (disch := omega) only [go_sem, b5, e0, e2, e3, e4]
        have hbr : ∃ t2, t2 = tk l (k1 + 1) := ⟨_, rfl⟩
        obtain ⟨t2, ht2⟩ := hbr
        unfold takeN at hr'
        refine (take_spec G H6 1 haK.get (by omega) (by omega)).mono ?_
        intro e1 H9 hq9
        rw [← ht2] at hq9 hr'
        by_cases c9 : t2.kind = 1
        ·rw [if_pos c9] at hq9 hr'
         obtain ⟨rfl, hH9⟩ := hq9
         have hk9 : k1 + 2 ≤ l.length := tk_lt (by rw [← ht2, c9]; decide)
         have haL : RAt r l (k1 + 2) Hb H9 := by rw [hH9]; exact haK.set _
         have hH95 : H9 r5 = some (.cells [.int .u8 0, .int .u8 0, .int .i64 0, .str [], .oslice 9 q 0 1 1, .nilSlice, .int .i64 t.line, .int .i64 0, .int .i64 0] 27) := by rw [hH9]; exact keepU hH65 p5r.symm
         have hH94 : H9 r4 = some (.cells (dEx x) 27) := by rw [hH9]; exact keepU hH64 q4
         have hH9q : H9 q = some (.cells (dEx x) 27) := by rw [hH9]; exact keepU hH6q pr.symm
         obtain ⟨m', rfl⟩ : ∃ m', m = m' + 1 := by
          cases m with
          | zero => rw [hr'] at hn; exact absurd rfl hn
          | succ m' => exact ⟨m', rfl⟩
         simp (disch := omega) only [go_sem, dTok, e0, e2, e3, e4, hH95, hH94, p54]
         have hatf := fun z z' => (haL.own hb5 p5r.symm z).own hr4 q4 z'
         have hqf := fun z z' => keepU (y := z') (keepU (y := z) hH9q m5q) p4.symm
         refine ⟨(m', .mk 6 0 0 t2.text [x] [] t.line 0 0, k1 + 2), _, GhostS.cell (upd_same _ _ _) (hatf _ _) (seens_name (a := []) (hatf _ _) (upd_same _ _ _) hbq pr.symm p4.symm (hqf _ _) (fun T hd => .as0D hd)), (hI _ _ _).2 ?_, by dsimp only; omega⟩
         simp (disch := omega) only [go_sem, e0, e2, e3, e4]
        ·rw [if_neg c9] at hq9 hr'
         obtain ⟨rfl, hH9⟩ := hq9
         simp (disch := omega) only [go_sem]
         rw [hr']
         exact RAt.finP (by rw [hH9]; exact RAt.up (haK.set _) hab) ⟨rfl, rfl⟩
       ·have b5' : isW l k1 [wTick] = false := by simpa using b5
        rw [if_neg b5, upd_get ha1.get] at hH6
        rw [if_neg b5] at hr'
        rw [hH6]
        have hox := dEx_one x
        simp (disch := omega) only [go_sem, b5', e0, e2, e3, e4, g14, g12', hlx, hox]
        rw [hr']
        exact RAt.fin ((RAt.up ha1 hab).own hr2 q2 _) ⟨rfl, rfl⟩
 ·rw [if_neg c] at hn hq ⊢
  obtain ⟨rfl, hH1⟩ := hq
  simp (disch := omega) only [go_sem]
  exact RAt.finP (by rw [hH1]; exact ha.set k) ⟨rfl, rfl⟩
end
end Go.Dl

-- Chapter 3: the package's reader: all its functions together.
namespace Go.Dl
open Go Go.Proofs
set_option maxRecDepth 100000
section
variable {G : Nat → DVal} {r : Nat} {l : List Tok}
structure RdAll (G : Nat → DVal) (l : List Tok) (r : Nat) (m : Nat) : Prop where
 expr : RdC Tryz.prog G l 62 r fun k => ((P l m).expr k).mp dE
 rest : ∀ x, RdC1 Tryz.prog G l 118 r (.agg (dEx x)) fun k => ((P l m).rest x k).mp dE
 relation : ∀ x, RdC1 Tryz.prog G l 64 r (.agg (dEx x)) fun k => ((P l m).relation x k).mp dE
 simple : RdC Tryz.prog G l 65 r fun k => ((P l m).simple k).mp dE
 term : RdC Tryz.prog G l 66 r fun k => ((P l m).term k).mp dE
 factor : RdC Tryz.prog G l 67 r fun k => ((P l m).factor k).mp dE
 primary : RdC Tryz.prog G l 68 r fun k => ((P l m).primary k).mp dE
 paren : RdC Tryz.prog G l 127 r fun k => ((P l m).paren k).mp dE
 assoc : RdC Tryz.prog G l 177 r fun k => ((P l m).assoc k).mp dA
 choice : RdC Tryz.prog G l 161 r fun k => ((P l m).choice k).mp dC
 arg : RdC Tryz.prog G l 157 r fun k => ((P l m).arg k).mp dA
 name : RdC Tryz.prog G l 69 r fun k => ((P l m).name k).mp dE
theorem rd_all (hG : GX G) (hl : l.length ≤ 800000) : ∀ n m, m ≤ n → RdAll G l r m := by
 intro n
 induction n with
 | zero =>
  intro m hm
  have : m = 0 := by omega
  subst this
  constructor <;> intros <;> intro H k _ _ hn <;> exact absurd rfl hn
 | succ n ih =>
  intro m hm
  rcases Nat.lt_or_ge m (n + 1) with h | h
  ·exact ih m (by omega)
  ·have : m = n + 1 := by omega
   subst this
   have h0 := ih n (Nat.le_refl _)
   exact ⟨expr_step hl _ (P_adv n) h0.simple h0.rest, rest_step hG hl n (fun m hm => (ih m hm).simple) (fun m hm => (ih m hm).relation), relation_step hG hl _ (P_adv n) h0.simple,
    simple_step hG hl n (fun m hm => (ih m hm).term), term_step hG hl n (fun m hm => (ih m hm).factor), factor_step hG hl _ (P_adv n) h0.primary, primary_step hG hl _ h0.paren h0.name,
    paren_step hG hl n h0.expr (fun m hm => (ih m hm).assoc), rdAssoc_step hG hl n (fun m hm => (ih m hm).choice) h0.expr, choice_step hG hl _ (P_adv n) h0.simple h0.rest, argument_step hG hl _ h0.expr,
    name_step hG hl n (fun m hm => (ih m hm).arg) (fun m hm => (ih m hm).paren)⟩
theorem rd_at (hG : GX G) (hl : l.length ≤ 800000) (m : Nat) : RdAll G l r m := rd_all hG hl m m (Nat.le_refl _)
end
end Go.Dl

-- Chapter 3: the package's read: what a panic of reading told becomes the error.
namespace Go.Dl
open Go Go.Proofs
set_option maxRecDepth 100000
section
variable {G : Nat → DVal} {l : List Tok}
def readE : Res Ex → DVal
 | .ok x k => .tuple [dE x, dI k, dI 0]
 | .fail k => .tuple [dE ex0, dI k, dI 30]
 | .bot => .nilPtr
set_option maxHeartbeats 4000000 in
theorem readE_spec (hG : GX G) (H : DHeap) (hl : l.length ≤ 800000) (g : FuncId) (res : Res Ex) (hn : res ≠ .bot) (hf : ∀ r H, H r = some (rdO l 0) → DCalls Tryz.prog G g [.optr r 0] H (RdR r l H (res.mp dE))) :
  DCalls Tryz.prog G 70 [dToks l, .func (.func g) [] []] H (DRet (readE res) H) := by
 refine dcalls_late Tryz.func70 Tryz.func130 Tryz.call70 Tryz.call130 rfl rfl (by kernel_rfl) (by kernel_rfl) rfl ?_
 simp (disch := omega) only [go_sem]
 intro r4 hr4; dsimp only at hr4
 simp (disch := omega) only [go_sem]
 intro r5 hr5; dsimp only at hr5
 obtain ⟨m45, m54, hr5'⟩ := upd_eq_none.1 hr5
 simp (disch := omega) only [go_sem]
 intro r6 hr6; dsimp only at hr6
 have a5 : upd (upd H r4 (some (.cells [.int .u8 0, .int .u8 0, .int .i64 0, .str [], .nilSlice, .nilSlice, .int .i64 0, .int .i64 0, .int .i64 0] 27))) r5 (some (.cells [dI 0] 3)) r5 = some (.cells [dI 0] 3) := upd_same _ _ _
 have a4 : upd (upd H r4 (some (.cells [.int .u8 0, .int .u8 0, .int .i64 0, .str [], .nilSlice, .nilSlice, .int .i64 0, .int .i64 0, .int .i64 0] 27))) r5 (some (.cells [dI 0] 3)) r4 = some (.cells [.int .u8 0, .int .u8 0, .int .i64 0, .str [], .nilSlice, .nilSlice, .int .i64 0, .int .i64 0, .int .i64 0] 27) := keepU (upd_same _ _ _) (none_ne hr5 (upd_same _ _ _))
 have n56 : r5 ≠ r6 := none_ne hr6 a5
 have n46 : r4 ≠ r6 := none_ne hr6 a4
 have n45 : r4 ≠ r5 := none_ne hr5 (upd_same _ _ _)
 have hdc : (dToks l).cells = [dToks l] := rfl
 simp (disch := omega) only [go_sem, hdc, List.length_cons, List.length_nil, List.drop_succ_cons, List.drop_zero, List.cons_append, List.nil_append]
 intro r7 hr7; dsimp only at hr7
 have n47 : r4 ≠ r7 := none_ne hr7 (keepU a4 n46)
 have n57 : r5 ≠ r7 := none_ne hr7 (keepU a5 n56)
 have n67 : r6 ≠ r7 := none_ne hr7 (upd_same _ _ _)
 have hr6' : H r6 = none := ((((Sub.refl H).new hr4 _).new hr5 _).lo hr6)
 have hr7' : H r7 = none := (((((Sub.refl H).new hr4 _).new hr5 _).new hr6 _).lo hr7)
 have n74 := n47.symm
 have n75 := n57.symm
 have n76 := n67.symm
 have n64 := n46.symm
 have n65 := n56.symm
 simp (disch := omega) only [go_sem]
 refine (hf r7 _ (upd_same _ _ _)).mono ?_
 intro e H5 hq
 have g4 : ∀ z, upd (upd (upd (upd (upd H r4 (some (.cells [.int .u8 0, .int .u8 0, .int .i64 0, .str [], .nilSlice, .nilSlice, .int .i64 0, .int .i64 0, .int .i64 0] 27))) r5 (some (.cells [dI 0] 3))) r6 (some (.cells [dI 0] 29))) r7 (some (rdO l 0))) r7 z r4 = some (.cells [.int .u8 0, .int .u8 0, .int .i64 0, .str [], .nilSlice, .nilSlice, .int .i64 0, .int .i64 0, .int .i64 0] 27) := fun z => by
  rw [upd_ne _ _ _ _ n47, upd_ne _ _ _ _ n47, upd_ne _ _ _ _ n46]; exact a4
 cases hres : res with
 | bot => exact absurd hres hn
 | ok x k =>
  rw [hres] at hq
  obtain ⟨rfl, hH5⟩ := hq
  have hlx := dEx_len x
  have hox := dEx_one x
  have g54 : H5 r4 = some (.cells [.int .u8 0, .int .u8 0, .int .i64 0, .str [], .nilSlice, .nilSlice, .int .i64 0, .int .i64 0, .int .i64 0] 27) := by rw [hH5]; exact g4 _
  have g55 : H5 r5 = some (.cells [dI 0] 3) := by rw [hH5, upd_ne _ _ _ _ n57, upd_ne _ _ _ _ n57, upd_ne _ _ _ _ n56]; exact a5
  have g56 : H5 r6 = some (.cells [dI 0] 29) := by rw [hH5, upd_ne _ _ _ _ n67, upd_ne _ _ _ _ n67]; exact upd_same _ _ _
  have g57 : H5 r7 = some (.cells [dToks l, dI k] 139) := by rw [hH5]; exact upd_same _ _ _
  have hs5 : Sub H H5 := by rw [hH5]; exact ((((((Sub.refl H).new hr4 _).new hr5 _).new hr6 _).new hr7 _).up hr7' _)
  simp (disch := omega) only [go_sem, dE, g54, hlx, hox]
  refine dwp_draws (by kernel_rfl) (.take 0 (.take 1 (.take 2 (.take 3 (.take 4 (.go 5 [4] (.go 6 [] (.go 7 [] .done)))))))) (by kernel_rfl) ?_
  simp (disch := omega) only [go_sem, g54, g55, g56, g57, n45, n46, n47, n56, n57, n67, m45, n74, n75, n76, n64, n65, hlx, hox]
  intro r8 hr8; dsimp only at hr8
  obtain ⟨K, hK⟩ : ∃ K, K = upd (upd (upd H5 r4 (some (.cells (dEx x) 27))) r5 (some (.cells [dI k] 3))) r6 (some (.cells [dI 0] 29)) := ⟨_, rfl⟩
  have hsK : Sub H K := by rw [hK]; exact ((hs5.up hr4 _).up hr5' _).up hr6' _
  have k4 : K r4 = some (.cells (dEx x) 27) := by rw [hK]; exact keepU (keepU (upd_same _ _ _) n45) n46
  have k5 : K r5 = some (.cells [dI k] 3) := by rw [hK]; exact keepU (upd_same _ _ _) n56
  have k6 : K r6 = some (.cells [dI 0] 29) := by rw [hK]; exact upd_same _ _ _
  rw [← hK] at hr8 ⊢
  have n48 : r4 ≠ r8 := none_ne hr8 k4
  have n58 : r5 ≠ r8 := none_ne hr8 k5
  have n68 : r6 ≠ r8 := none_ne hr8 k6
  simp (disch := omega) only [go_sem, k4, k5, k6, n48, n58, n68, hlx, hox]
  exact DFin.sub (hsK.new hr8 _) (.refl ⟨rfl, rfl⟩)
 | fail k =>
  rw [hres] at hq
  obtain ⟨rfl, hH5⟩ := hq
  have g54 : H5 r4 = some (.cells [.int .u8 0, .int .u8 0, .int .i64 0, .str [], .nilSlice, .nilSlice, .int .i64 0, .int .i64 0, .int .i64 0] 27) := by rw [hH5]; exact g4 _
  have g55 : H5 r5 = some (.cells [dI 0] 3) := by rw [hH5, upd_ne _ _ _ _ n57, upd_ne _ _ _ _ n57, upd_ne _ _ _ _ n56]; exact a5
  have g56 : H5 r6 = some (.cells [dI 0] 29) := by rw [hH5, upd_ne _ _ _ _ n67, upd_ne _ _ _ _ n67]; exact upd_same _ _ _
  have hs5 : Sub H H5 := by rw [hH5]; exact ((((((Sub.refl H).new hr4 _).new hr5 _).new hr6 _).new hr7 _).up hr7' _)
  simp (disch := omega) only [go_sem, dWrong]
  intro r8 hr8; dsimp only at hr8
  have n48 : r4 ≠ r8 := none_ne hr8 g54
  have n58 : r5 ≠ r8 := none_ne hr8 g55
  have n68 : r6 ≠ r8 := none_ne hr8 g56
  simp (disch := omega) only [go_sem, g54, g55, g56, n48, n58, n68, n45, n46, n56, m45, n64, n65]
  have hsK := fun x y z => (((hs5.new hr8 x).up hr5' y).up hr6' z)
  exact Seen.fin (hsK _ _ _) (Seen.tuple (.cons (Seen.agg (Seen.ex (l := []) (a := []) (hsK _ _ _) (.exs0 (hsK _ _ _)) (.as0 (hsK _ _ _)))) (Seens.keep (hsK _ _ _) _))) ⟨rfl, rfl⟩
end
end Go.Dl

-- Chapter 3: expressions: the plain laws, part 4: with enough fuel reading comes to an answer; then it needs no fuel.
namespace Go.Dl
open Go
set_option maxRecDepth 10000
section
variable {l : List Tok}
theorem then_ne {α β : Type} {a : Nat} {r : Res α} {f : α → Nat → Res β} (h : r ≠ .bot) (ha : Adv l a r) (k : ∀ x n, a ≤ n → n ≤ l.length → f x n ≠ .bot) : r.then f ≠ .bot := by
 cases r with
 | bot => exact absurd rfl h
 | fail n => intro e; cases e
 | ok x n => exact k x n ha.1 ha.2
theorem ok_ne {α : Type} {x : α} {k : Nat} : (Res.ok x k) ≠ .bot := fun e => by cases e
theorem fail_ne {α : Type} {k : Nat} : (Res.fail k : Res α) ≠ .bot := fun e => by cases e
theorem must_ne {α : Type} {s : List UInt8} {k : Nat} {f : Nat → Res α} (hk : k ≤ l.length) (h : k + 1 ≤ l.length → f (k + 1) ≠ .bot) : must l s k f ≠ .bot := by
 unfold must
 split
 ·rename_i hw
  exact h (isW_lt hw hk)
 ·exact fail_ne
theorem takeN_ne {α : Type} {k : Nat} {f : List UInt8 → Nat → Res α} (h : k + 1 ≤ l.length → ∀ s, f s (k + 1) ≠ .bot) : takeN l k f ≠ .bot := by
 unfold takeN
 split
 ·rename_i hw
  exact h (tk_lt (by rw [hw]; decide)) _
 ·exact fail_ne
structure PS.Tot (l : List Tok) (n : Nat) (p : PS) : Prop where
 expr : ∀ k, k ≤ l.length → 8 * (l.length - k) + 6 ≤ n → p.expr k ≠ .bot
 rest : ∀ x k, k ≤ l.length → 8 * (l.length - k) + 2 ≤ n → p.rest x k ≠ .bot
 restL : ∀ o x k, k ≤ l.length → 8 * (l.length - k) + 1 ≤ n → p.restL o x k ≠ .bot
 relation : ∀ x k, k ≤ l.length → 8 * (l.length - k) + 1 ≤ n → p.relation x k ≠ .bot
 simple : ∀ k, k ≤ l.length → 8 * (l.length - k) + 5 ≤ n → p.simple k ≠ .bot
 addL : ∀ x k, k ≤ l.length → 8 * (l.length - k) + 1 ≤ n → p.addL x k ≠ .bot
 term : ∀ k, k ≤ l.length → 8 * (l.length - k) + 4 ≤ n → p.term k ≠ .bot
 mulL : ∀ x k, k ≤ l.length → 8 * (l.length - k) + 1 ≤ n → p.mulL x k ≠ .bot
 factor : ∀ k, k ≤ l.length → 8 * (l.length - k) + 3 ≤ n → p.factor k ≠ .bot
 primary : ∀ k, k ≤ l.length → 8 * (l.length - k) + 2 ≤ n → p.primary k ≠ .bot
 paren : ∀ k, k ≤ l.length → 8 * (l.length - k) + 1 ≤ n → p.paren k ≠ .bot
 assoc : ∀ k, k ≤ l.length → 8 * (l.length - k) + 7 ≤ n → p.assoc k ≠ .bot
 assocsL : ∀ a k, k ≤ l.length → 8 * (l.length - k) + 1 ≤ n → p.assocsL a k ≠ .bot
 choice : ∀ k, k ≤ l.length → 8 * (l.length - k) + 6 ≤ n → p.choice k ≠ .bot
 choicesL : ∀ a k, k ≤ l.length → 8 * (l.length - k) + 1 ≤ n → p.choicesL a k ≠ .bot
 arg : ∀ k, k ≤ l.length → 8 * (l.length - k) + 7 ≤ n → p.arg k ≠ .bot
 argsL : ∀ a k, k ≤ l.length → 8 * (l.length - k) + 1 ≤ n → p.argsL a k ≠ .bot
 name : ∀ k, k ≤ l.length → 8 * (l.length - k) + 1 ≤ n → p.name k ≠ .bot
 nameL : ∀ i x k, k ≤ l.length → 8 * (l.length - k) + 1 ≤ n → p.nameL i x k ≠ .bot
theorem stepP_tot {p : PS} {n : Nat} (h : p.Tot l n) (ha : p.Adv l) : (stepP l p).Tot l (n + 1) where
 expr k hk hn := then_ne (h.simple k hk (by omega)) (ha.simple k hk) fun x m h1 h2 => h.rest x m h2 (by omega)
 rest x k hk hn := then_ne (h.relation x k hk (by omega)) (ha.relation x k hk) fun x m h1 h2 => h.restL _ x m h2 (by omega)
 restL o x k hk hn := by
  dsimp only [stepP]
  split
  ·exact ok_ne
  ·obtain ⟨q1, q2, q3, q4⟩ := opF_adv (want := o) ops_ok.1 hk
   split
   ·exact ok_ne
   ·rename_i hq
    have := q2 hq
    exact then_ne (h.simple _ q3 (by omega)) (ha.simple _ q3) fun y n h1 h2 => then_ne (h.relation y n h2 (by omega)) (ha.relation y n h2) fun z m h3 h4 => h.restL _ _ m h4 (by omega)
 relation x k hk hn := by
  dsimp only [stepP]
  obtain ⟨q1, q2, q3, q4⟩ := opF_adv (want := 0) ops_ok.2.1 hk
  have hin : ∀ kind j, k + 1 ≤ j → j ≤ l.length → inK l x kind j p ≠ .bot := fun kind j h1 h2 => by
   refine then_ne (h.simple j h2 (by omega)) (ha.simple j h2) fun y m h3 h4 => ?_
   split
   ·rename_i hw
    have := isW_lt hw h4
    have := this
    simp only [List.length_cons, List.length_nil] at this
    exact then_ne (h.simple (m + 1) (by omega) (by omega)) (ha.simple (m + 1) (by omega)) fun z m _ _ => ok_ne
   ·split
    ·exact ok_ne
    ·exact fail_ne
  split
  ·rename_i hq
   have := q2 hq
   exact then_ne (h.simple _ q3 (by omega)) (ha.simple _ q3) fun y n h1 h2 => ok_ne
  ·split
   ·rename_i hw
    have := isW_lt hw hk
    simp only [List.length_cons, List.length_nil] at this
    exact hin _ _ (by omega) (by omega)
   ·split
    ·rename_i hw
     have := isW_lt hw hk
     simp only [List.length_cons, List.length_nil] at this
     exact hin _ _ (by omega) (by omega)
    ·exact ok_ne
 simple k hk hn := by
  obtain ⟨q1, q2, q3, q4⟩ := opF_adv (want := 0) ops_ok.2.2.1 hk
  exact then_ne (h.term _ q3 (by omega)) (ha.term _ q3) fun x n h1 h2 => h.addL _ n h2 (by omega)
 addL x k hk hn := by
  dsimp only [stepP]
  obtain ⟨q1, q2, q3, q4⟩ := opF_adv (want := 0) ops_ok.2.2.2.1 hk
  split
  ·exact ok_ne
  ·rename_i hq
   have := q2 hq
   exact then_ne (h.term _ q3 (by omega)) (ha.term _ q3) fun x n h1 h2 => h.addL _ n h2 (by omega)
 term k hk hn := then_ne (h.factor k hk (by omega)) (ha.factor k hk) fun x n h1 h2 => h.mulL _ n h2 (by omega)
 mulL x k hk hn := by
  dsimp only [stepP]
  obtain ⟨q1, q2, q3, q4⟩ := opF_adv (want := 0) ops_ok.2.2.2.2.1 hk
  split
  ·exact ok_ne
  ·rename_i hq
   have := q2 hq
   exact then_ne (h.factor _ q3 (by omega)) (ha.factor _ q3) fun x n h1 h2 => h.mulL _ n h2 (by omega)
 factor k hk hn := by
  obtain ⟨q1, q2, q3, q4⟩ := opF_adv (want := 0) ops_ok.2.2.2.2.2 hk
  exact then_ne (h.primary _ q3 (by omega)) (ha.primary _ q3) fun x n h1 h2 => ok_ne
 primary k hk hn := by
  dsimp only [stepP]
  split
  ·exact ok_ne
  ·split
   ·exact ok_ne
   ·split
    ·exact h.paren k hk (by omega)
    ·exact h.name k hk (by omega)
 paren k hk hn := by
  dsimp only [stepP]
  refine must_ne hk fun hk1 => ?_
  split
  ·rename_i hw
   have := isW_lt hw hk1
   simp only [List.length_cons, List.length_nil] at this
   refine then_ne (h.expr _ this (by omega)) (ha.expr _ this) fun a n1 h1 h2 => must_ne h2 fun h3 => then_ne (h.expr _ h3 (by omega)) (ha.expr _ h3) fun b n2 h4 h5 => must_ne h5 fun h6 => then_ne (h.expr _ h6 (by omega)) (ha.expr _ h6) fun c n3 h7 h8 => must_ne h8 fun h9 => ok_ne
  ·exact then_ne (h.assoc _ hk1 (by omega)) (ha.assoc _ hk1) fun a n1 h1 h2 => then_ne (h.assocsL _ _ h2 (by omega)) (ha.assocsL _ _ h2) fun az n2 h3 h4 => must_ne h4 fun h5 => ok_ne
 assoc k hk hn := by
  refine then_ne (h.choice k hk (by omega)) (ha.choice k hk) fun c n h1 h2 => ?_
  split
  ·exact ok_ne
  ·split
   ·exact must_ne h2 fun h3 => then_ne (h.expr _ h3 (by omega)) (ha.expr _ h3) fun e m h4 h5 => ok_ne
   ·exact then_ne (h.choicesL _ _ h2 (by omega)) (ha.choicesL _ _ h2) fun cs m h3 h4 => must_ne h4 fun h5 => then_ne (h.expr _ h5 (by omega)) (ha.expr _ h5) fun e m h6 h7 => ok_ne
 assocsL az k hk hn := by
  dsimp only [stepP]
  split
  ·rename_i hw
   have := isW_lt hw hk
   simp only [List.length_cons, List.length_nil] at this
   exact then_ne (h.assoc _ this (by omega)) (ha.assoc _ this) fun a n h1 h2 => h.assocsL _ n h2 (by omega)
  ·exact ok_ne
 choice k hk hn := by
  dsimp only [stepP]
  split
  ·exact ok_ne
  ·refine then_ne (h.simple k hk (by omega)) (ha.simple k hk) fun x n h1 h2 => ?_
   split
   ·rename_i hw
    have := isW_lt hw h2
    simp only [List.length_cons, List.length_nil] at this
    exact then_ne (h.simple _ this (by omega)) (ha.simple _ this) fun y m h3 h4 => ok_ne
   ·exact then_ne (h.rest x n h2 (by omega)) (ha.rest x n h2) fun y m h3 h4 => ok_ne
 choicesL az k hk hn := by
  dsimp only [stepP]
  split
  ·rename_i hw
   have := isW_lt hw hk
   simp only [List.length_cons, List.length_nil] at this
   exact then_ne (h.choice _ this (by omega)) (ha.choice _ this) fun a n h1 h2 => h.choicesL _ n h2 (by omega)
  ·exact ok_ne
 arg k hk hn := by
  dsimp only [stepP]
  split
  ·rename_i hw
   have h1 := tk_lt (l := l) (k := k) (by rw [hw.1]; decide)
   have := isW_lt hw.2 h1
   simp only [List.length_cons, List.length_nil] at this
   exact then_ne (h.expr _ this (by omega)) (ha.expr _ this) fun y m h3 h4 => ok_ne
  ·exact then_ne (h.expr k hk (by omega)) (ha.expr k hk) fun y m h3 h4 => ok_ne
 argsL az k hk hn := by
  dsimp only [stepP]
  split
  ·rename_i hw
   have := isW_lt hw hk
   simp only [List.length_cons, List.length_nil] at this
   exact then_ne (h.arg _ this (by omega)) (ha.arg _ this) fun a n h1 h2 => h.argsL _ n h2 (by omega)
  ·exact ok_ne
 name k hk hn := takeN_ne fun h1 s => h.nameL _ _ _ h1 (by omega)
 nameL i x k hk hn := by
  dsimp only [stepP]
  split
  ·rename_i hw
   have := isW_lt hw hk
   simp only [List.length_cons, List.length_nil] at this
   exact h.nameL _ _ _ (by omega) (by omega)
  ·split
   ·rename_i hw
    have := isW_lt hw hk
    simp only [List.length_cons, List.length_nil] at this
    exact takeN_ne fun h1 s => h.nameL _ _ _ h1 (by omega)
   ·split
    ·rename_i hw
     have := isW_lt hw hk
     simp only [List.length_cons, List.length_nil] at this
     exact then_ne (h.arg _ this (by omega)) (ha.arg _ this) fun a n h1 h2 => then_ne (h.argsL _ _ h2 (by omega)) (ha.argsL _ _ h2) fun az m h3 h4 => must_ne h4 fun h5 => h.nameL _ _ _ h5 (by omega)
    ·split
     ·rename_i hw
      have := isW_lt hw hk
      simp only [List.length_cons, List.length_nil] at this
      exact then_ne (h.paren _ (by omega) (by omega)) (ha.paren _ (by omega)) fun a n h1 h2 => h.nameL _ _ _ h2 (by omega)
     ·split
      ·rename_i hw
       have := isW_lt hw hk
       simp only [List.length_cons, List.length_nil] at this
       exact takeN_ne fun h1 s => h.nameL _ _ _ h1 (by omega)
      ·exact ok_ne
theorem P_tot : ∀ n, (P l n).Tot l n
 | 0 => by constructor <;> intros <;> omega
 | n + 1 => stepP_tot (P_tot n) (P_adv n)
def fuel (l : List Tok) : Nat := 8 * l.length + 20
def Q (l : List Tok) : PS := P l (fuel l)
theorem le_eq {α : Type} {r r' : Res α} (h : r.Le r') (hn : r ≠ .bot) : r' = r := by
 rcases h with h | h
 ·exact absurd h hn
 ·exact h.symm
structure PS.Fix (l : List Tok) (p : PS) : Prop where
 expr : ∀ k, k ≤ l.length → p.expr k = (stepP l p).expr k
 rest : ∀ x k, k ≤ l.length → p.rest x k = (stepP l p).rest x k
 restL : ∀ o x k, k ≤ l.length → p.restL o x k = (stepP l p).restL o x k
 relation : ∀ x k, k ≤ l.length → p.relation x k = (stepP l p).relation x k
 simple : ∀ k, k ≤ l.length → p.simple k = (stepP l p).simple k
 addL : ∀ x k, k ≤ l.length → p.addL x k = (stepP l p).addL x k
 term : ∀ k, k ≤ l.length → p.term k = (stepP l p).term k
 mulL : ∀ x k, k ≤ l.length → p.mulL x k = (stepP l p).mulL x k
 factor : ∀ k, k ≤ l.length → p.factor k = (stepP l p).factor k
 primary : ∀ k, k ≤ l.length → p.primary k = (stepP l p).primary k
 paren : ∀ k, k ≤ l.length → p.paren k = (stepP l p).paren k
 assoc : ∀ k, k ≤ l.length → p.assoc k = (stepP l p).assoc k
 assocsL : ∀ a k, k ≤ l.length → p.assocsL a k = (stepP l p).assocsL a k
 choice : ∀ k, k ≤ l.length → p.choice k = (stepP l p).choice k
 choicesL : ∀ a k, k ≤ l.length → p.choicesL a k = (stepP l p).choicesL a k
 arg : ∀ k, k ≤ l.length → p.arg k = (stepP l p).arg k
 argsL : ∀ a k, k ≤ l.length → p.argsL a k = (stepP l p).argsL a k
 name : ∀ k, k ≤ l.length → p.name k = (stepP l p).name k
 nameL : ∀ i x k, k ≤ l.length → p.nameL i x k = (stepP l p).nameL i x k
theorem Q_tot : (Q l).Tot l (fuel l) := P_tot _
theorem Q_adv : (Q l).Adv l := P_adv _
theorem Q_fix : (Q l).Fix l := by
 have h : (Q l).Le (stepP l (Q l)) := P_succ_le _
 have t := Q_tot (l := l)
 have f : ∀ k, 8 * (l.length - k) + 7 ≤ fuel l := fun k => by unfold fuel; omega
 have f' : ∀ {k a : Nat}, a ≤ 7 → 8 * (l.length - k) + a ≤ fuel l := fun {k a} ha => by have := f k; omega
 exact ⟨fun k hk => (le_eq (h.expr k) (t.expr k hk (f' (by omega)))).symm,
  fun x k hk => (le_eq (h.rest x k) (t.rest x k hk (f' (by omega)))).symm,
  fun o x k hk => (le_eq (h.restL o x k) (t.restL o x k hk (f' (by omega)))).symm,
  fun x k hk => (le_eq (h.relation x k) (t.relation x k hk (f' (by omega)))).symm,
  fun k hk => (le_eq (h.simple k) (t.simple k hk (f' (by omega)))).symm,
  fun x k hk => (le_eq (h.addL x k) (t.addL x k hk (f' (by omega)))).symm,
  fun k hk => (le_eq (h.term k) (t.term k hk (f' (by omega)))).symm,
  fun x k hk => (le_eq (h.mulL x k) (t.mulL x k hk (f' (by omega)))).symm,
  fun k hk => (le_eq (h.factor k) (t.factor k hk (f' (by omega)))).symm,
  fun k hk => (le_eq (h.primary k) (t.primary k hk (f' (by omega)))).symm,
  fun k hk => (le_eq (h.paren k) (t.paren k hk (f' (by omega)))).symm,
  fun k hk => (le_eq (h.assoc k) (t.assoc k hk (f' (by omega)))).symm,
  fun x k hk => (le_eq (h.assocsL x k) (t.assocsL x k hk (f' (by omega)))).symm,
  fun k hk => (le_eq (h.choice k) (t.choice k hk (f' (by omega)))).symm,
  fun x k hk => (le_eq (h.choicesL x k) (t.choicesL x k hk (f' (by omega)))).symm,
  fun k hk => (le_eq (h.arg k) (t.arg k hk (f' (by omega)))).symm,
  fun x k hk => (le_eq (h.argsL x k) (t.argsL x k hk (f' (by omega)))).symm,
  fun k hk => (le_eq (h.name k) (t.name k hk (f' (by omega)))).symm,
  fun i x k hk => (le_eq (h.nameL i x k) (t.nameL i x k hk (f' (by omega)))).symm⟩
end
end Go.Dl

-- Chapter 3: expressions: the plain laws, part 5: the tokens of an expression.
namespace Go.Dl
open Go
set_option maxRecDepth 10000
def wTok (s : List UInt8) : Tok := ⟨kindW s, 0, s, 0⟩
def nmTok (s : List UInt8) : Tok := ⟨1, 0, s, 0⟩
def inTok (n : Int) : Tok := ⟨3, 0, [], n⟩
def parT (b : Bool) (t : List Tok) : List Tok := if b then wTok wOpen :: (t ++ [wTok wShut]) else t
def sepT (s : List UInt8) : List (List Tok) → List Tok
 | [] => []
 | [x] => x
 | x :: r => x ++ wTok s :: sepT s r
def leastM (e : Ex) : Int := if levelE e = 2 then 3 else 5
def leastL (e : Ex) : Int := if levelE e = 1 then 2 else if levelE e = 0 ∧ ((e.l.getD 0 ex0).kind ≠ 12 ∨ (e.l.getD 0 ex0).oper ≠ e.oper) then 1 else levelE e
def leastR (e : Ex) : Int := if levelE e = 1 then 2 else levelE e + 1
def bareK (k : Int) : Bool := decide (k = 9) || decide (k = 10)
def formE (e : Ex) (tl ta : List (List Tok)) : List Tok :=
 let p := fun (i : Nat) (lv : Int) => parT (decide (levelE (e.l.getD i ex0) < lv)) (tl.getD i [])
 if e.kind = 1 then [inTok e.n] else if e.kind = 2 then [wTok wNull] else if e.kind = 3 then [nmTok e.s]
 else if e.kind = 4 then tl.getD 0 [] ++ [wTok wDot, nmTok e.s]
 else if e.kind = 5 then tl.getD 0 [] ++ [wTok wDot, wTok wAll]
 else if e.kind = 6 then tl.getD 0 [] ++ [wTok wTick, nmTok e.s]
 else if e.kind = 7 then tl.getD 0 [] ++ wTok wOpen :: (sepT wComma ta ++ [wTok wShut])
 else if e.kind = 8 then tl.getD 0 [] ++ wTok wTick :: parT (!bareK (e.l.getD 1 ex0).kind) (tl.getD 1 [])
 else if e.kind = 9 then wTok wOpen :: (sepT wComma ta ++ [wTok wShut])
 else if e.kind = 10 then wTok wOpen :: wTok wIf :: (tl.getD 0 [] ++ wTok wThen :: (tl.getD 1 [] ++ wTok wElse :: (tl.getD 2 [] ++ [wTok wShut])))
 else if e.kind = 11 then (wordsN e.oper.toNat).map wTok ++ p 0 (leastM e)
 else if e.kind = 12 then p 0 (leastL e) ++ ((wordsN e.oper.toNat).map wTok ++ p 1 (leastR e))
 else if e.kind = 13 then p 0 2 ++ wTok wIn :: (if e.l.length = 3 then p 1 2 ++ wTok wDots :: p 2 2 else tl.getD 1 [])
 else p 0 2 ++ wTok wNot :: wTok wIn :: (if e.l.length = 3 then p 1 2 ++ wTok wDots :: p 2 2 else tl.getD 1 [])
def formC (k : Int) (l : List Ex) (tl : List (List Tok)) : List Tok :=
 let p := fun (i : Nat) (lv : Int) => parT (decide (levelE (l.getD i ex0) < lv)) (tl.getD i [])
 if k = 1 then tl.getD 0 [] else if k = 2 then p 0 2 ++ wTok wDots :: p 1 2 else [wTok wOthers]
def formA (tc : List (List Tok)) (te : List Tok) : List Tok := if tc.isEmpty then te else sepT wBar tc ++ wTok wArrow :: te
mutual
def toksE : Ex → List Tok
 | .mk k o n s l a li en t => formE (.mk k o n s l a li en t) (toksLE l) (toksAs a)
def toksLE : List Ex → List (List Tok)
 | [] => []
 | x :: l => toksE x :: toksLE l
def toksA : As → List Tok
 | .mk c e => formA (toksCs c) (toksE e)
def toksAs : List As → List (List Tok)
 | [] => []
 | x :: l => toksA x :: toksAs l
def toksC : Ch → List Tok
 | .mk k l => formC k l (toksLE l)
def toksCs : List Ch → List (List Tok)
 | [] => []
 | x :: l => toksC x :: toksCs l
end
theorem toksLE_map : ∀ l : List Ex, toksLE l = l.map toksE
 | [] => rfl
 | x :: l => by rw [toksLE, toksLE_map l, List.map_cons]
theorem toksAs_map : ∀ l : List As, toksAs l = l.map toksA
 | [] => rfl
 | x :: l => by rw [toksAs, toksAs_map l, List.map_cons]
theorem toksCs_map : ∀ l : List Ch, toksCs l = l.map toksC
 | [] => rfl
 | x :: l => by rw [toksCs, toksCs_map l, List.map_cons]
theorem toksE_eq (e : Ex) : toksE e = formE e (e.l.map toksE) (e.a.map toksA) := by
 cases e; rw [toksE, toksLE_map, toksAs_map]; rfl
theorem toksA_eq (x : As) : toksA x = if x.c.isEmpty then toksE x.e else sepT wBar (x.c.map toksC) ++ wTok wArrow :: toksE x.e := by
 cases x with
 | mk c e => rw [toksA, toksCs_map, formA]; cases c <;> rfl
def partE (e : Ex) (lv : Int) : List Tok := parT (decide (levelE e < lv)) (toksE e)
theorem getD_map {α β : Type} (f : α → β) (l : List α) (i : Nat) (d : α) (e : β) (h : i < l.length) : (l.map f).getD i e = f (l.getD i d) := by
 simp [List.getD, List.getElem?_map, List.getElem?_eq_getElem h]
theorem toksC_eq (c : Ch) : toksC c = if c.kind = 1 then (c.l.map toksE).getD 0 [] else if c.kind = 2 then parT (decide (levelE (c.l.getD 0 ex0) < 2)) ((c.l.map toksE).getD 0 []) ++ wTok wDots :: parT (decide (levelE (c.l.getD 1 ex0) < 2)) ((c.l.map toksE).getD 1 []) else [wTok wOthers] := by
 cases c; rw [toksC, toksLE_map]; rfl
def tE (e : Ex) (i : Nat) : List Tok := (e.l.map toksE).getD i []
def pE (e : Ex) (i : Nat) (lv : Int) : List Tok := parT (decide (levelE (e.l.getD i ex0) < lv)) (tE e i)
def tailE (e : Ex) : List Tok := if e.l.length = 3 then pE e 1 2 ++ wTok wDots :: pE e 2 2 else tE e 1
def taE (e : Ex) : List Tok := sepT wComma (e.a.map toksA)
section
variable {e : Ex}
theorem toks1 (h : e.kind = 1) : toksE e = [inTok e.n] := by rw [toksE_eq]; unfold formE; rw [h]; rfl
theorem toks2 (h : e.kind = 2) : toksE e = [wTok wNull] := by rw [toksE_eq]; unfold formE; rw [h]; rfl
theorem toks3 (h : e.kind = 3) : toksE e = [nmTok e.s] := by rw [toksE_eq]; unfold formE; rw [h]; rfl
theorem toks4 (h : e.kind = 4) : toksE e = tE e 0 ++ [wTok wDot, nmTok e.s] := by rw [toksE_eq]; unfold formE; rw [h]; rfl
theorem toks5 (h : e.kind = 5) : toksE e = tE e 0 ++ [wTok wDot, wTok wAll] := by rw [toksE_eq]; unfold formE; rw [h]; rfl
theorem toks6 (h : e.kind = 6) : toksE e = tE e 0 ++ [wTok wTick, nmTok e.s] := by rw [toksE_eq]; unfold formE; rw [h]; rfl
theorem toks7 (h : e.kind = 7) : toksE e = tE e 0 ++ wTok wOpen :: (taE e ++ [wTok wShut]) := by rw [toksE_eq]; unfold formE; rw [h]; rfl
theorem toks8 (h : e.kind = 8) : toksE e = tE e 0 ++ wTok wTick :: parT (!bareK (e.l.getD 1 ex0).kind) (tE e 1) := by rw [toksE_eq]; unfold formE; rw [h]; rfl
theorem toks9 (h : e.kind = 9) : toksE e = wTok wOpen :: (taE e ++ [wTok wShut]) := by rw [toksE_eq]; unfold formE; rw [h]; rfl
theorem toks10 (h : e.kind = 10) : toksE e = wTok wOpen :: wTok wIf :: (tE e 0 ++ wTok wThen :: (tE e 1 ++ wTok wElse :: (tE e 2 ++ [wTok wShut]))) := by rw [toksE_eq]; unfold formE; rw [h]; rfl
theorem toks11 (h : e.kind = 11) : toksE e = (wordsN e.oper.toNat).map wTok ++ pE e 0 (leastM e) := by rw [toksE_eq]; unfold formE; rw [h]; rfl
theorem toks12 (h : e.kind = 12) : toksE e = pE e 0 (leastL e) ++ ((wordsN e.oper.toNat).map wTok ++ pE e 1 (leastR e)) := by rw [toksE_eq]; unfold formE; rw [h]; rfl
theorem toks13 (h : e.kind = 13) : toksE e = pE e 0 2 ++ wTok wIn :: tailE e := by rw [toksE_eq]; unfold formE; rw [h]; rfl
theorem toks14 (h : e.kind = 14) : toksE e = pE e 0 2 ++ wTok wNot :: wTok wIn :: tailE e := by rw [toksE_eq]; unfold formE; rw [h]; rfl
theorem tE_at {i : Nat} (h : i < e.l.length) : tE e i = toksE (e.l.getD i ex0) := getD_map toksE e.l i ex0 [] h
theorem pE_at {i : Nat} (h : i < e.l.length) (lv : Int) : pE e i lv = partE (e.l.getD i ex0) lv := by rw [pE, tE_at h]; rfl
end
theorem sepT_cons (s : List UInt8) (x : List Tok) (r : List (List Tok)) (h : r ≠ []) : sepT s (x :: r) = x ++ wTok s :: sepT s r := by
 cases r with
 | nil => exact absurd rfl h
 | cons y r => rfl
theorem sepT_snoc (s : List UInt8) : ∀ (l : List (List Tok)) (x : List Tok), l ≠ [] → sepT s (l ++ [x]) = sepT s l ++ wTok s :: x
 | [], _, h => absurd rfl h
 | [y], x, _ => rfl
 | y :: z :: r, x, _ => by
  rw [List.cons_append, sepT_cons s y _ (by simp), sepT_snoc s (z :: r) x (by simp), sepT_cons s y (z :: r) (by simp)]
  simp
end Go.Dl

-- Chapter 3: expressions: the plain laws, part 8: what was read is not shorter than its tokens.
namespace Go.Dl
open Go
set_option maxRecDepth 10000
section
variable {l : List Tok}
theorem parT_len (b : Bool) (t : List Tok) : (parT b t).length = t.length + if b then 2 else 0 := by
 cases b <;> simp [parT]
theorem level_ge (e : Ex) : 0 ≤ levelE e ∧ levelE e ≤ 5 := by
 unfold levelE; repeat' split
 all_goals omega
def Post {α : Type} (R : α → Nat → Prop) (r : Res α) : Prop := ∀ x k', r = .ok x k' → R x k'
theorem post_then {α β : Type} {r : Res α} {f : α → Nat → Res β} {R : α → Nat → Prop} {S : β → Nat → Prop} (h : Post R r) (hf : ∀ x k1, R x k1 → Post S (f x k1)) : Post S (r.then f) := fun y k' e => by
 cases r with
 | bot => cases e
 | fail n => cases e
 | ok x n => exact hf x n (h x n rfl) y k' e
theorem post_ok {α : Type} {R : α → Nat → Prop} {k : Nat} {x : α} (h : R x k) : Post R (.ok x k) := fun y k' e => by cases e; exact h
theorem post_fail {α : Type} {R : α → Nat → Prop} {k : Nat} : Post R (.fail k) := fun y k' e => by cases e
theorem post_must {α : Type} {R : α → Nat → Prop} {k : Nat} {s : List UInt8} {f : Nat → Res α} (h : isW l k [s] = true → Post R (f (k + 1))) : Post R (must l s k f) := by
 unfold must
 split
 ·exact h ‹_›
 ·exact post_fail
theorem post_take {α : Type} {R : α → Nat → Prop} {k : Nat} {f : List UInt8 → Nat → Res α} (h : (tk l k).kind = 1 → Post R (f (tk l k).text (k + 1))) : Post R (takeN l k f) := by
 unfold takeN
 split
 ·exact h ‹_›
 ·exact post_fail
theorem post_and {α : Type} {R S : α → Nat → Prop} {r : Res α} (h : Post R r) (g : Post S r) : Post (fun x k => R x k ∧ S x k) r := fun x k e => ⟨h x k e, g x k e⟩
theorem adv_post {α : Type} {a : Nat} {r : Res α} (h : Adv l a r) : Post (fun _ k' => a ≤ k' ∧ k' ≤ l.length) r := fun x k' e => by rw [e] at h; exact h
def sepN (ta : List (List Tok)) : Nat := (ta.map fun t => t.length + 1).sum - 1
theorem sepT_len (s : List UInt8) : ∀ l : List (List Tok), (sepT s l).length = sepN l
 | [] => rfl
 | [x] => by simp [sepT, sepN]
 | x :: y :: r => by
  have ih := sepT_len s (y :: r)
  rw [sepT_cons s x _ (by simp), List.length_append, List.length_cons, ih]
  simp only [sepN, List.map_cons, List.sum_cons]
  omega
def sumT (ta : List (List Tok)) : Nat := (ta.map fun t => t.length + 1).sum
theorem sumT_len (s : List UInt8) (ta : List (List Tok)) (h : ta ≠ []) : (sepT s ta).length + 1 = sumT ta := by
 rw [sepT_len, sepN, sumT]
 cases ta with
 | nil => exact absurd rfl h
 | cons t r => simp only [List.map_cons, List.sum_cons]; omega
end
end Go.Dl

-- Chapter 3: what was read fits into a machine.
namespace Go.Dl
open Go Go.Proofs
set_option maxRecDepth 100000
section
variable {l : List Tok}
theorem bigAs_snoc (a : As) : ∀ l : List As, bigAs (l ++ [a]) = bigAs l + bigA a
 | [] => by simp [bigAs]
 | x :: l => by rw [List.cons_append, bigAs, bigAs, bigAs_snoc a l]; omega
theorem bigCs_snoc (a : Ch) : ∀ l : List Ch, bigCs (l ++ [a]) = bigCs l + bigC a
 | [] => by simp [bigCs]
 | x :: l => by rw [List.cons_append, bigCs, bigCs, bigCs_snoc a l]; omega
theorem okAs_snoc (a : As) : ∀ l : List As, okAs (l ++ [a]) ↔ okAs l ∧ okA a
 | [] => by simp [okAs]
 | x :: l => by rw [List.cons_append, okAs, okAs, okAs_snoc a l]; exact and_assoc.symm
theorem okCs_snoc (a : Ch) : ∀ l : List Ch, okCs (l ++ [a]) ↔ okCs l ∧ okC a
 | [] => by simp [okCs]
 | x :: l => by rw [List.cons_append, okCs, okCs, okCs_snoc a l]; exact and_assoc.symm
def FE (k : Nat) (x : Ex) (k' : Nat) : Prop := bigE x + 1 + 2 * k ≤ 2 * k' ∧ okE x
def FL (k : Nat) (x y : Ex) (k' : Nat) : Prop := bigE y + 2 * k ≤ bigE x + 2 * k' ∧ okE y
structure PS.Fits (l : List Tok) (p : PS) : Prop where
 expr : ∀ k, k ≤ l.length → Post (FE k) (p.expr k)
 rest : ∀ x k, k ≤ l.length → okE x → Post (FL k x) (p.rest x k)
 restL : ∀ o x k, k ≤ l.length → okE x → Post (FL k x) (p.restL o x k)
 relation : ∀ x k, k ≤ l.length → okE x → Post (FL k x) (p.relation x k)
 simple : ∀ k, k ≤ l.length → Post (FE k) (p.simple k)
 addL : ∀ x k, k ≤ l.length → okE x → Post (FL k x) (p.addL x k)
 term : ∀ k, k ≤ l.length → Post (FE k) (p.term k)
 mulL : ∀ x k, k ≤ l.length → okE x → Post (FL k x) (p.mulL x k)
 factor : ∀ k, k ≤ l.length → Post (FE k) (p.factor k)
 primary : ∀ k, k ≤ l.length → Post (FE k) (p.primary k)
 paren : ∀ k, k ≤ l.length → Post (FE k) (p.paren k)
 assoc : ∀ k, k ≤ l.length → Post (fun x k' => bigA x + 1 + 2 * k ≤ 2 * k' ∧ okA x) (p.assoc k)
 assocsL : ∀ a k, k ≤ l.length → okAs a → Post (fun b k' => bigAs b + 2 * k ≤ bigAs a + 2 * k' ∧ okAs b) (p.assocsL a k)
 choice : ∀ k, k ≤ l.length → Post (fun x k' => bigC x + 2 * k ≤ 2 * k' ∧ okC x) (p.choice k)
 choicesL : ∀ a k, k ≤ l.length → okCs a → Post (fun b k' => bigCs b + 2 * k ≤ bigCs a + 2 * k' ∧ okCs b) (p.choicesL a k)
 arg : ∀ k, k ≤ l.length → Post (fun x k' => bigA x + 1 + 2 * k ≤ 2 * k' ∧ okA x) (p.arg k)
 argsL : ∀ a k, k ≤ l.length → okAs a → Post (fun b k' => bigAs b + 2 * k ≤ bigAs a + 2 * k' ∧ okAs b) (p.argsL a k)
 name : ∀ k, k ≤ l.length → Post (FE k) (p.name k)
 nameL : ∀ i x k, k ≤ l.length → okE x → Post (FL k x) (p.nameL i x k)
theorem big_both (o : Nat) (x y : Ex) : bigE (both o x y) = 1 + bigE x + bigE y := by
 rw [both, bigE]; simp only [bigL, bigAs]; omega
theorem ok_both {o : Nat} {x y : Ex} (h1 : okE x) (h2 : okE y) : okE (both o x y) := by
 rw [both, okE]; simp only [okL, okAs]; exact ⟨by decide, ⟨h1, h2, trivial⟩, trivial⟩
theorem big_mona (o : Nat) (x : Ex) (li : Int) : bigE (mona o li x) = if o = 0 then bigE x else 1 + bigE x := by
 unfold mona; split
 ·rfl
 ·rw [bigE]; simp only [bigL, bigAs]; omega
theorem ok_mona {o : Nat} {x : Ex} {li : Int} (h1 : okE x) : okE (mona o li x) := by
 unfold mona; split
 ·exact h1
 ·rw [okE]; simp only [okL, okAs]; exact ⟨by decide, ⟨h1, trivial⟩, trivial⟩
theorem stepP_fits (hT : ∀ k, (tk l k).text.length ≤ 9223372036854775807) {p : PS} (h : p.Fits l) (hA : p.Adv l) : (stepP l p).Fits l where
 expr k hk := post_then (post_and (h.simple k hk) (adv_post (hA.simple k hk))) fun x m ⟨h1, h2⟩ y k' e => by
  obtain ⟨g1, g2⟩ := h.rest x m h2.2 h1.2 y k' e
  exact ⟨by have := h1.1; omega, g2⟩
 rest x k hk hx := post_then (post_and (h.relation x k hk hx) (adv_post (hA.relation x k hk))) fun y m ⟨h1, h2⟩ z k' e => by
  obtain ⟨g1, g2⟩ := h.restL _ y m h2.2 h1.2 z k' e
  exact ⟨by have := h1.1; omega, g2⟩
 restL o x k hk hx := by
  dsimp only [stepP]
  split
  ·exact post_ok ⟨Nat.le_refl _, hx⟩
  ·obtain ⟨q1, q2, q3, q4⟩ := opF_adv (want := o) ops_ok.1 hk
   split
   ·exact post_ok ⟨Nat.le_refl _, hx⟩
   ·rename_i hq
    have := q2 hq
    refine post_then (post_and (h.simple _ q3) (adv_post (hA.simple _ q3))) fun y j ⟨h1, h2⟩ => post_then (post_and (h.relation y j h2.2 h1.2) (adv_post (hA.relation y j h2.2))) fun z i ⟨h3, h4⟩ w k' e => ?_
    obtain ⟨g1, g2⟩ := h.restL o (both o x z) i h4.2 (ok_both hx h3.2) w k' e
    rw [big_both] at g1
    have := h1.1
    have := h3.1
    exact ⟨by omega, g2⟩
 relation x k hk hx := by
  dsimp only [stepP]
  obtain ⟨q1, q2, q3, q4⟩ := opF_adv (want := 0) ops_ok.2.1 hk
  have hin : ∀ (kind : Int) (j : Nat), k + 1 ≤ j → j ≤ l.length → Post (FL k x) (inK l x kind j p) := fun kind j hkj hj => by
   refine post_then (post_and (h.simple _ hj) (adv_post (hA.simple _ hj))) fun y i ⟨h1, h2⟩ => ?_
   have := h1.1
   split
   ·rename_i hw
    have j1 := isW_lt hw h2.2
    simp only [List.length_cons, List.length_nil] at j1
    refine post_then (h.simple _ j1) fun z n h3 => post_ok ⟨?_, ?_⟩
    ·have := h3.1
     rw [bigE]; simp only [bigL, bigAs]; omega
    ·rw [okE]; simp only [okL, okAs]; exact ⟨by decide, ⟨hx, h1.2, h3.2, trivial⟩, trivial⟩
   ·split
    ·refine post_ok ⟨?_, ?_⟩
     ·rw [bigE]; simp only [bigL, bigAs]; omega
     ·rw [okE]; simp only [okL, okAs]; exact ⟨by decide, ⟨hx, h1.2, trivial⟩, trivial⟩
    ·exact post_fail
  split
  ·rename_i hq
   have := q2 hq
   refine post_then (h.simple _ q3) fun y j h1 => post_ok ⟨?_, ok_both hx h1.2⟩
   have := h1.1
   rw [big_both]; omega
  ·split
   ·rename_i hw
    have j1 := isW_lt hw hk
    simp only [List.length_cons, List.length_nil] at j1
    exact hin _ _ (by omega) j1
   ·split
    ·rename_i hw
     have j1 := isW_lt hw hk
     simp only [List.length_cons, List.length_nil] at j1
     exact hin _ _ (by omega) j1
    ·exact post_ok ⟨Nat.le_refl _, hx⟩
 simple k hk := by
  obtain ⟨q1, q2, q3, q4⟩ := opF_adv (want := 0) ops_ok.2.2.1 hk
  refine post_then (post_and (h.term _ q3) (adv_post (hA.term _ q3))) fun x j ⟨h1, h2⟩ y k' e => ?_
  obtain ⟨g1, g2⟩ := h.addL _ j h2.2 (ok_mona h1.2) y k' e
  have := h1.1
  rw [big_mona] at g1
  refine ⟨?_, g2⟩
  by_cases c : (opF l 0 k opsSign).1 = 0
  ·rw [if_pos c] at g1; omega
  ·have := q2 c
   rw [if_neg c] at g1; omega
 addL x k hk hx := by
  dsimp only [stepP]
  obtain ⟨q1, q2, q3, q4⟩ := opF_adv (want := 0) ops_ok.2.2.2.1 hk
  split
  ·exact post_ok ⟨Nat.le_refl _, hx⟩
  ·rename_i hq
   have := q2 hq
   refine post_then (post_and (h.term _ q3) (adv_post (hA.term _ q3))) fun y j ⟨h1, h2⟩ z k' e => ?_
   obtain ⟨g1, g2⟩ := h.addL _ j h2.2 (ok_both hx h1.2) z k' e
   have := h1.1
   rw [big_both] at g1
   exact ⟨by omega, g2⟩
 term k hk := post_then (post_and (h.factor k hk) (adv_post (hA.factor k hk))) fun x j ⟨h1, h2⟩ y k' e => by
  obtain ⟨g1, g2⟩ := h.mulL x j h2.2 h1.2 y k' e
  have := h1.1
  exact ⟨by omega, g2⟩
 mulL x k hk hx := by
  dsimp only [stepP]
  obtain ⟨q1, q2, q3, q4⟩ := opF_adv (want := 0) ops_ok.2.2.2.2.1 hk
  split
  ·exact post_ok ⟨Nat.le_refl _, hx⟩
  ·rename_i hq
   have := q2 hq
   refine post_then (post_and (h.factor _ q3) (adv_post (hA.factor _ q3))) fun y j ⟨h1, h2⟩ z k' e => ?_
   obtain ⟨g1, g2⟩ := h.mulL _ j h2.2 (ok_both hx h1.2) z k' e
   have := h1.1
   rw [big_both] at g1
   exact ⟨by omega, g2⟩
 factor k hk := by
  obtain ⟨q1, q2, q3, q4⟩ := opF_adv (want := 0) ops_ok.2.2.2.2.2 hk
  refine post_then (h.primary _ q3) fun x j h1 => post_ok ⟨?_, ok_mona h1.2⟩
  have := h1.1
  rw [big_mona]
  by_cases c : (opF l 0 k opsFac).1 = 0
  ·rw [if_pos c]; omega
  ·have := q2 c
   rw [if_neg c]; omega
 primary k hk := by
  dsimp only [stepP]
  split
  ·exact post_ok ⟨by rw [bigE]; simp only [bigL, bigAs]; omega, by rw [okE]; exact ⟨by decide, trivial, trivial⟩⟩
  ·split
   ·exact post_ok ⟨by rw [bigE]; simp only [bigL, bigAs]; omega, by rw [okE]; exact ⟨by decide, trivial, trivial⟩⟩
   ·split
    ·exact h.paren k hk
    ·exact h.name k hk
 paren k hk := by
  dsimp only [stepP]
  refine post_must fun hw => ?_
  have hk1 := isW_lt hw hk
  simp only [List.length_cons, List.length_nil] at hk1
  split
  ·rename_i hw2
   have hk2 := isW_lt hw2 hk1
   simp only [List.length_cons, List.length_nil] at hk2
   refine post_then (post_and (h.expr _ hk2) (adv_post (hA.expr _ hk2))) fun a i1 ⟨g1, g2⟩ => post_must fun w1 => ?_
   have j1 := isW_lt w1 g2.2
   refine post_then (post_and (h.expr _ j1) (adv_post (hA.expr _ j1))) fun b i2 ⟨g3, g4⟩ => post_must fun w2 => ?_
   have j2 := isW_lt w2 g4.2
   refine post_then (post_and (h.expr _ j2) (adv_post (hA.expr _ j2))) fun c i3 ⟨g5, g6⟩ => post_must fun w3 => post_ok ⟨?_, ?_⟩
   ·have := g1.1; have := g3.1; have := g5.1
    rw [bigE]; simp only [bigL, bigAs]; omega
   ·rw [okE]; simp only [okL, okAs]; exact ⟨by decide, ⟨g1.2, g3.2, g5.2, trivial⟩, trivial⟩
  ·refine post_then (post_and (h.assoc _ hk1) (adv_post (hA.assoc _ hk1))) fun a i1 ⟨g1, g2⟩ => post_then (post_and (h.assocsL [a] i1 g2.2 ⟨g1.2, trivial⟩) (adv_post (hA.assocsL [a] i1 g2.2))) fun b i2 ⟨g3, g4⟩ => post_must fun w1 => post_ok ?_
   have g1' := g1.1
   have g3' := g3.1
   simp only [bigAs] at g3'
   have key : ∀ li, FE k (.mk 9 0 0 [] [] b li 0 0) (i2 + 1) := fun li => ⟨by rw [bigE]; simp only [bigL]; omega, by rw [okE]; exact ⟨by decide, trivial, g3.2⟩⟩
   match b, g3, g3', key with
   | [], g3, _, key => exact key _
   | x :: y :: r, g3, _, key => exact key _
   | [x], g3, g3', key =>
    show FE k (if x.c = [] then x.e else _) _
    split
    ·simp only [bigAs] at g3'
     have h6 := bigA_eq x
     have h5 := g3.2
     simp only [okAs] at h5
     exact ⟨by omega, (okA_eq.1 h5.1).2⟩
    ·exact key _
 assoc k hk := by
  refine post_then (post_and (h.choice k hk) (adv_post (hA.choice k hk))) fun c i1 ⟨⟨g1, g1'⟩, g2⟩ => ?_
  rw [bigC_eq] at g1
  split
  ·refine post_ok ?_
   rw [okC_eq] at g1'
   rw [bigA, okA]
   simp only [bigCs, okCs]
   obtain ⟨m, hm⟩ : ∃ m, m = c.l := ⟨_, rfl⟩
   rw [← hm] at g1 g1' ⊢
   cases m with
   | nil => exact ⟨by show 0 + bigE ex0 + 1 + 2 * k ≤ _; rw [show bigE ex0 = 1 from rfl]; omega, trivial, by simp [ex0, okE, okL, okAs]⟩
   | cons x r =>
    rw [bigL] at g1
    rw [okL] at g1'
    exact ⟨by show 0 + bigE x + 1 + 2 * k ≤ _; omega, trivial, g1'.1⟩
  ·split
   ·refine post_must fun w1 => ?_
    have j1 := isW_lt w1 g2.2
    simp only [List.length_cons, List.length_nil] at j1
    refine post_then (h.expr _ j1) fun e i2 g3 => post_ok ⟨?_, ?_⟩
    ·have := g3.1
     rw [bigA]; simp only [bigCs, bigC_eq]; omega
    ·rw [okA]; exact ⟨⟨g1', trivial⟩, g3.2⟩
   ·refine post_then (post_and (h.choicesL [c] i1 g2.2 ⟨g1', trivial⟩) (adv_post (hA.choicesL [c] i1 g2.2))) fun b i2 ⟨⟨g3, g3'⟩, g4⟩ => post_must fun w1 => ?_
    have j1 := isW_lt w1 g4.2
    simp only [List.length_cons, List.length_nil] at j1
    refine post_then (h.expr _ j1) fun e i3 g5 => post_ok ⟨?_, ?_⟩
    ·have := g5.1
     simp only [bigCs, bigC_eq] at g3
     rw [bigA]; omega
    ·rw [okA]; exact ⟨g3', g5.2⟩
 assocsL a k hk ha := by
  dsimp only [stepP]
  split
  ·rename_i hw
   have := isW_lt hw hk
   simp only [List.length_cons, List.length_nil] at this
   refine post_then (post_and (h.assoc _ this) (adv_post (hA.assoc _ this))) fun x n ⟨h1, h2⟩ y k' e => ?_
   obtain ⟨g, g'⟩ := h.assocsL _ n h2.2 ((okAs_snoc _ _).2 ⟨ha, h1.2⟩) y k' e
   rw [bigAs_snoc] at g
   have := h1.1
   exact ⟨by omega, g'⟩
  ·exact post_ok ⟨Nat.le_refl _, ha⟩
 choice k hk := by
  dsimp only [stepP]
  split
  ·exact post_ok ⟨by rw [bigC]; simp only [bigL]; omega, by rw [okC]; trivial⟩
  ·refine post_then (post_and (h.simple k hk) (adv_post (hA.simple k hk))) fun x i1 ⟨g1, g2⟩ => ?_
   have := g1.1
   split
   ·rename_i hw
    have j1 := isW_lt hw g2.2
    simp only [List.length_cons, List.length_nil] at j1
    refine post_then (h.simple _ j1) fun y i2 g3 => post_ok ⟨?_, ?_⟩
    ·have := g3.1
     rw [bigC]; simp only [bigL]; omega
    ·rw [okC]; exact ⟨g1.2, g3.2, trivial⟩
   ·refine post_then (h.rest x i1 g2.2 g1.2) fun y i2 g3 => post_ok ⟨?_, ?_⟩
    ·have := g3.1
     rw [bigC]; simp only [bigL]; omega
    ·rw [okC]; exact ⟨g3.2, trivial⟩
 choicesL a k hk ha := by
  dsimp only [stepP]
  split
  ·rename_i hw
   have := isW_lt hw hk
   simp only [List.length_cons, List.length_nil] at this
   refine post_then (post_and (h.choice _ this) (adv_post (hA.choice _ this))) fun x n ⟨h1, h2⟩ y k' e => ?_
   obtain ⟨g, g'⟩ := h.choicesL _ n h2.2 ((okCs_snoc _ _).2 ⟨ha, h1.2⟩) y k' e
   rw [bigCs_snoc] at g
   have := h1.1
   exact ⟨by omega, g'⟩
  ·exact post_ok ⟨Nat.le_refl _, ha⟩
 arg k hk := by
  dsimp only [stepP]
  split
  ·rename_i hw
   have j0 := tk_lt (l := l) (k := k) (by rw [hw.1]; decide)
   have j1 := isW_lt hw.2 j0
   simp only [List.length_cons, List.length_nil] at j1
   refine post_then (h.expr _ j1) fun e i1 g1 => post_ok ⟨?_, ?_⟩
   ·have := g1.1
    rw [bigA]; simp only [bigCs, bigC, bigL, bigE, bigAs]; omega
   ·rw [okA]; simp only [okCs, okC, okL, okE, okAs]; exact ⟨⟨⟨⟨hT k, trivial, trivial⟩, trivial⟩, trivial⟩, g1.2⟩
  ·refine post_then (h.expr k hk) fun e i1 g1 => post_ok ⟨?_, ?_⟩
   ·have := g1.1
    rw [bigA]; simp only [bigCs]; omega
   ·rw [okA]; exact ⟨trivial, g1.2⟩
 argsL a k hk ha := by
  dsimp only [stepP]
  split
  ·rename_i hw
   have := isW_lt hw hk
   simp only [List.length_cons, List.length_nil] at this
   refine post_then (post_and (h.arg _ this) (adv_post (hA.arg _ this))) fun x n ⟨h1, h2⟩ y k' e => ?_
   obtain ⟨g, g'⟩ := h.argsL _ n h2.2 ((okAs_snoc _ _).2 ⟨ha, h1.2⟩) y k' e
   rw [bigAs_snoc] at g
   have := h1.1
   exact ⟨by omega, g'⟩
  ·exact post_ok ⟨Nat.le_refl _, ha⟩
 name k hk := by
  dsimp only [stepP]
  refine post_take fun hkd => ?_
  have j0 := tk_lt (l := l) (k := k) (by rw [hkd]; decide)
  intro x k' e
  obtain ⟨g, g'⟩ := h.nameL _ (.mk 3 0 0 (tk l k).text [] [] (tk l k).line 0 0) (k + 1) j0 (by rw [okE]; exact ⟨hT k, trivial, trivial⟩) x k' e
  rw [bigE] at g
  simp only [bigL, bigAs] at g
  exact ⟨by omega, g'⟩
 nameL i x k hk hx := by
  have hn : ∀ (y : Ex) (j : Nat), j ≤ l.length → okE y → bigE y + 2 * k ≤ bigE x + 2 * j → Post (FL k x) (p.nameL i y j) := fun y j hj hy hl z k' e => by
   obtain ⟨g, g'⟩ := h.nameL i y j hj hy z k' e
   exact ⟨by omega, g'⟩
  dsimp only [stepP]
  split
  ·rename_i hw
   have j1 := isW_lt hw hk
   simp only [List.length_cons, List.length_nil] at j1
   refine hn _ _ j1 ?_ ?_
   ·rw [okE]; exact ⟨by decide, ⟨hx, trivial⟩, trivial⟩
   ·rw [bigE]; simp only [bigL, bigAs]; omega
  ·split
   ·rename_i hw
    have j1 := isW_lt hw hk
    refine post_take fun hkd => ?_
    have j2 := tk_lt (l := l) (k := k + 1) (by rw [hkd]; decide)
    refine hn _ _ j2 ?_ ?_
    ·rw [okE]; exact ⟨hT _, ⟨hx, trivial⟩, trivial⟩
    ·rw [bigE]; simp only [bigL, bigAs]; omega
   ·split
    ·rename_i hw
     have j1 := isW_lt hw hk
     simp only [List.length_cons, List.length_nil] at j1
     refine post_then (post_and (h.arg _ j1) (adv_post (hA.arg _ j1))) fun a i1 ⟨g1, g2⟩ => post_then (post_and (h.argsL [a] i1 g2.2 ⟨g1.2, trivial⟩) (adv_post (hA.argsL [a] i1 g2.2))) fun b i2 ⟨g3, g4⟩ => post_must fun w1 => ?_
     have j2 := isW_lt w1 g4.2
     have g1' := g1.1
     have g3' := g3.1
     simp only [bigAs] at g3'
     refine hn _ _ j2 ?_ ?_
     ·rw [okE]; exact ⟨by decide, ⟨hx, trivial⟩, g3.2⟩
     ·rw [bigE]; simp only [bigL]; omega
    ·split
     ·rename_i hw
      have j1 := isW_lt hw hk
      simp only [List.length_cons, List.length_nil] at j1
      have j2 : k + 1 ≤ l.length := by omega
      refine post_then (post_and (h.paren _ j2) (adv_post (hA.paren _ j2))) fun y i1 ⟨g1, g2⟩ => ?_
      have g1' := g1.1
      refine hn _ _ g2.2 ?_ ?_
      ·rw [okE]; exact ⟨by decide, ⟨hx, g1.2, trivial⟩, trivial⟩
      ·rw [bigE]; simp only [bigL, bigAs]; omega
     ·split
      ·rename_i hw
       have j1 := isW_lt hw hk
       refine post_take fun hkd => ?_
       have j2 := tk_lt (l := l) (k := k + 1) (by rw [hkd]; decide)
       refine hn _ _ j2 ?_ ?_
       ·rw [okE]; exact ⟨hT _, ⟨hx, trivial⟩, trivial⟩
       ·rw [bigE]; simp only [bigL, bigAs]; omega
      ·exact post_ok ⟨Nat.le_refl _, hx⟩
theorem P_fits (hT : ∀ k, (tk l k).text.length ≤ 9223372036854775807) : ∀ n, (P l n).Fits l
 | 0 => by constructor <;> intros <;> intro x k' e <;> cases e
 | n + 1 => stepP_fits hT (P_fits hT n) (P_adv n)
end
end Go.Dl

-- Chapter 3: the package's Front, FrontArgs, FrontChoices.
namespace Go.Dl
open Go Go.Proofs
set_option maxRecDepth 100000
def lvlR (l : List Tok) : Nat → Res Ex
 | 0 => (Q l).expr 0
 | 1 => ((Q l).simple 0).then fun x k => (Q l).relation x k
 | 2 => (Q l).simple 0
 | 3 => (Q l).term 0
 | 4 => (Q l).factor 0
 | 5 => (Q l).primary 0
 | _ => (Q l).name 0
def frontP (l : List Tok) (level : Int) : Ex × Int × Int :=
 if level < 0 ∨ 7 ≤ level then (ex0, 0, 2) else match lvlR l level.toNat with
  | .ok x k => if mayE x then (x, k, 0) else (ex0, 0, 3)
  | .fail k => (ex0, k, 30)
  | .bot => (ex0, 0, 0)
section
variable {l : List Tok}
theorem lvl_ne (j : Nat) : lvlR l j ≠ .bot := by
 have t := Q_tot (l := l)
 have f' : ∀ {k a : Nat}, a ≤ 7 → 8 * (l.length - k) + a ≤ fuel l := fun {k a} ha => by unfold fuel; omega
 unfold lvlR
 split
 ·exact t.expr _ (by omega) (f' (by omega))
 ·exact then_ne (t.simple _ (by omega) (f' (by omega))) (Q_adv.simple 0 (by omega)) fun x n _ h => t.relation _ _ h (f' (by omega))
 ·exact t.simple _ (by omega) (f' (by omega))
 ·exact t.term _ (by omega) (f' (by omega))
 ·exact t.factor _ (by omega) (f' (by omega))
 ·exact t.primary _ (by omega) (f' (by omega))
 ·exact t.name _ (by omega) (f' (by omega))
theorem lvl_adv (j : Nat) : Adv l 1 (lvlR l j) := by
 have t := Q_adv (l := l)
 unfold lvlR
 split
 ·exact t.expr _ (by omega)
 ·exact adv_then (t.simple _ (by omega)) fun x n h1 h => adv_less (t.relation x n h) h1
 ·exact t.simple _ (by omega)
 ·exact t.term _ (by omega)
 ·exact t.factor _ (by omega)
 ·exact t.primary _ (by omega)
 ·exact t.name _ (by omega)
def TokFit (l : List Tok) : Prop := ∀ k, (tk l k).text.length ≤ 9223372036854775807
theorem lvl_fits (hT : TokFit l) (j : Nat) : Post (FE 0) (lvlR l j) := by
 have t := P_fits hT (fuel l)
 change (Q l).Fits l at t
 unfold lvlR
 split
 ·exact t.expr _ (by omega)
 ·exact post_then (post_and (t.simple _ (by omega)) (adv_post (Q_adv.simple _ (by omega)))) fun x n ⟨h1, h2⟩ y k' e => by
   obtain ⟨g, g'⟩ := t.relation x n h2.2 h1.2 y k' e
   have := h1.1
   exact ⟨by omega, g'⟩
 ·exact t.simple _ (by omega)
 ·exact t.term _ (by omega)
 ·exact t.factor _ (by omega)
 ·exact t.primary _ (by omega)
 ·exact t.name _ (by omega)
end
section
variable {G : Nat → DVal} {l : List Tok}
theorem front1_spec (hG : GX G) (hl : l.length ≤ 800000) (r : Nat) (H : DHeap) (hr : H r = some (rdO l 0)) : DCalls Tryz.prog G 63 [.optr r 0] H (RdR r l H ((lvlR l 1).mp dE)) := by
 have ha := rd_at (r := r) hG hl (fuel l)
 have hne := lvl_ne (l := l) 1
 refine dcalls_intro Tryz.func63 Tryz.call63 rfl (by kernel_rfl) ?_
 simp (disch := omega) only [go_sem]
 intro r2 hr2; dsimp only at hr2
 have n2 : r ≠ r2 := none_ne hr2 hr
 have q2 := n2.symm
 simp (disch := omega) only [go_sem]
 have h0 : RAt r l 0 H (upd H r2 (some (.cells [.int .u8 0, .int .u8 0, .int .i64 0, .str [], .nilSlice, .nilSlice, .int .i64 0, .int .i64 0, .int .i64 0] 27))) := (RAt.refl hr).new hr2 _
 have hp := ha.simple _ 0 h0.get (by omega)
 have had := Q_adv.simple (l := l) 0 (by omega)
 unfold lvlR at hne ⊢
 dsimp only at hp
 change ((P l (fuel l)).simple 0).then _ ≠ _ at hne
 change DCalls _ _ _ _ _ _
 cases hc : (P l (fuel l)).simple 0 with
 | bot => rw [hc] at hne; exact absurd rfl hne
 | fail k =>
  rw [hc] at hp
  refine (hp (mp_ne (by simp))).mono ?_
  rintro e H4 ⟨rfl, rfl⟩
  simp (disch := omega) only [go_sem]
  have : (Q l).simple 0 = .fail k := hc
  rw [this]
  exact RAt.finP (h0.set k) ⟨rfl, rfl⟩
 | ok x k =>
  rw [hc] at hp hne
  have hq : (Q l).simple 0 = .ok x k := hc
  rw [hq] at had
  refine (hp (mp_ne (by simp))).mono ?_
  rintro e H4 ⟨rfl, hH4⟩
  have h4 : RAt r l k H H4 := by rw [hH4]; exact h0.set k
  have g4 : H4 r2 = some (.cells [.int .u8 0, .int .u8 0, .int .i64 0, .str [], .nilSlice, .nilSlice, .int .i64 0, .int .i64 0, .int .i64 0] 27) := by rw [hH4]; exact keepU (upd_same _ _ _) q2
  simp (disch := omega) only [go_sem, dE]
  have hp2 := ha.relation x H4 k h4.get had.2
  dsimp only at hp2
  rw [hq, then_ok]
  change (P l (fuel l)).relation x k ≠ _ at hne
  cases hc2 : (P l (fuel l)).relation x k with
  | bot => exact absurd hc2 hne
  | fail k2 =>
   rw [hc2] at hp2
   refine (hp2 (mp_ne (by simp))).mono ?_
   rintro e H5 ⟨rfl, rfl⟩
   simp (disch := omega) only [go_sem]
   have : (Q l).relation x k = .fail k2 := hc2
   rw [this]
   exact RAt.finP (h4.set k2) ⟨rfl, rfl⟩
  | ok y k2 =>
   rw [hc2] at hp2
   refine (hp2 (mp_ne (by simp))).mono ?_
   rintro e H5 ⟨rfl, hH5⟩
   have h5 : RAt r l k2 H H5 := by rw [hH5]; exact h4.set k2
   have g5 : H5 r2 = some (.cells [.int .u8 0, .int .u8 0, .int .i64 0, .str [], .nilSlice, .nilSlice, .int .i64 0, .int .i64 0, .int .i64 0] 27) := by rw [hH5]; exact keepU g4 q2
   have hly := dEx_len y
   have hoy := dEx_one y
   simp (disch := omega) only [go_sem, dE, g5, hly, hoy]
   have : (Q l).relation x k = .ok y k2 := hc2
   rw [this]
   exact RAt.fin (h5.own hr2 q2 _) ⟨rfl, rfl⟩
theorem lvl_calls (hG : GX G) (hl : l.length ≤ 800000) (j : Nat) (hj : j < 7) : ∃ g, ([.func (.func 62) [] [], .func (.func 63) [] [], .func (.func 65) [] [], .func (.func 66) [] [], .func (.func 67) [] [], .func (.func 68) [] [], .func (.func 69) [] []] : List DVal)[j]? = some (.func (.func g) [] []) ∧ ∀ r H, H r = some (rdO l 0) → DCalls Tryz.prog G g [.optr r 0] H (RdR r l H ((lvlR l j).mp dE)) := by
 have ha := fun r => rd_at (r := r) hG hl (fuel l)
 have hne := lvl_ne (l := l) j
 have hj' : j = 0 ∨ j = 1 ∨ j = 2 ∨ j = 3 ∨ j = 4 ∨ j = 5 ∨ j = 6 := by omega
 rcases hj' with rfl | rfl | rfl | rfl | rfl | rfl | rfl
 ·exact ⟨_, rfl, fun r H hr => (ha r).expr H 0 hr (by omega) (mp_ne hne)⟩
 ·exact ⟨_, rfl, fun r H hr => front1_spec hG hl r H hr⟩
 ·exact ⟨_, rfl, fun r H hr => (ha r).simple H 0 hr (by omega) (mp_ne hne)⟩
 ·exact ⟨_, rfl, fun r H hr => (ha r).term H 0 hr (by omega) (mp_ne hne)⟩
 ·exact ⟨_, rfl, fun r H hr => (ha r).factor H 0 hr (by omega) (mp_ne hne)⟩
 ·exact ⟨_, rfl, fun r H hr => (ha r).primary H 0 hr (by omega) (mp_ne hne)⟩
 ·exact ⟨_, rfl, fun r H hr => (ha r).name H 0 hr (by omega) (mp_ne hne)⟩
def dFront (p : Ex × Int × Int) : DVal := .tuple [dE p.1, dI p.2.1, dI p.2.2]
theorem Seen.ex0 {H H' : DHeap} (hs : Sub H H') : Seen H' (.agg [.int .u8 0, .int .u8 0, .int .i64 0, .str [], .nilSlice, .nilSlice, .int .i64 0, .int .i64 0, .int .i64 0]) H (dE ex0) := Seen.agg (Seen.ex (l := []) (a := []) hs (.exs0 hs) (.as0 hs))
set_option maxHeartbeats 4000000 in
theorem front_spec (hG : GX G) (H : DHeap) (level : Int) (hl : l.length ≤ 800000) (hT : TokFit l) : DCalls Tryz.prog G 17 [dToks l, dI level] H (DRet (dFront (frontP l level)) H) := by
 refine dcalls_intro Tryz.func17 Tryz.call17 rfl (by kernel_rfl) ?_
 simp (disch := omega) only [go_sem]
 intro r4 hr4; dsimp only at hr4
 have hs4 := fun z => (Sub.refl H).new hr4 z
 simp (disch := omega) only [go_sem]
 intro r8 hr8; dsimp only at hr8
 have n48 : r4 ≠ r8 := none_ne hr8 (upd_same _ _ _)
 have m48 := n48.symm
 have hr8' : H r8 = none := (hs4 _).lo hr8
 simp (disch := omega) only [go_sem]
 have hs8 := fun y => ((Sub.refl H).new hr4 (some (.cells [.int .u8 0, .int .u8 0, .int .i64 0, .str [], .nilSlice, .nilSlice, .int .i64 0, .int .i64 0, .int .i64 0] 27))).new hr8 y
 by_cases c0 : level < 0
 ·simp (disch := omega) only [go_sem, c0, n48, m48]
  have hf : frontP l level = (ex0, 0, 2) := by rw [frontP, if_pos (.inl c0)]
  rw [hf]
  have hs := fun y z => ((hs8 y).up hr4 z)
  exact Seen.fin (hs _ _) (Seen.tuple (.cons (Seen.ex0 (hs _ _)) (Seens.keep (hs _ _) _))) ⟨rfl, rfl⟩
 ·by_cases c7 : 7 ≤ level
  ·simp (disch := omega) only [go_sem, c0, c7, n48, m48]
   have hf : frontP l level = (ex0, 0, 2) := by rw [frontP, if_pos (.inr c7)]
   rw [hf]
   have hs := fun y z => ((hs8 y).up hr4 z)
   exact Seen.fin (hs _ _) (Seen.tuple (.cons (Seen.ex0 (hs _ _)) (Seens.keep (hs _ _) _))) ⟨rfl, rfl⟩
  ·obtain ⟨j, hj⟩ : ∃ j : Nat, level = j := ⟨level.toNat, by omega⟩
   subst hj
   obtain ⟨g, hg1, hg2⟩ := lvl_calls (l := l) hG hl j (by omega)
   have hf : frontP l j = match lvlR l j with
    | .ok x k => if mayE x then (x, k, 0) else (ex0, 0, 3)
    | .fail k => (ex0, k, 30)
    | .bot => (ex0, 0, 0) := by rw [frontP, if_neg (by omega), Int.toNat_natCast]
   have hj7 : (j : Int) < 7 := by omega
   simp (disch := omega) only [go_sem, c0, c7, n48, m48, hg1, Int.toNat_natCast, hj7]
   refine (readE_spec hG _ hl g (lvlR l j) (lvl_ne j) hg2).mono ?_
   rintro _ H1 ⟨rfl, hH1⟩
   have had := lvl_adv (l := l) j
   have hfit := lvl_fits hT j
   have hs1 : Sub H H1 := by rw [hH1]; exact hs8 _
   have g14 : H1 r4 = some (.cells [.int .u8 0, .int .u8 0, .int .i64 0, .str [], .nilSlice, .nilSlice, .int .i64 0, .int .i64 0, .int .i64 0] 27) := by rw [hH1]; exact keepU (upd_same _ _ _) n48
   cases hres : lvlR l j with
   | bot => exact absurd hres (lvl_ne j)
   | fail k =>
    rw [hres] at hf
    rw [hf, readE]
    have hl0 := dEx_len ex0
    have ho0 := dEx_one ex0
    simp (disch := omega) only [go_sem, dE, g14, hl0, ho0]
    have hs := fun z => hs1.up hr4 z
    exact Seen.fin (hs _) (Seen.tuple (.cons (Seen.ex0 (hs _)) (Seens.keep (hs _) _))) ⟨rfl, rfl⟩
   | ok x k =>
    rw [hres] at hf hfit had
    rw [hf, readE]
    obtain ⟨hb, hok⟩ := hfit x k rfl
    have hk := had.2
    have hF : Fit x := ⟨by omega, hok⟩
    have hlx := dEx_len x
    have hox := dEx_one x
    simp (disch := omega) only [go_sem, dE, g14, hlx, hox]
    refine (may_spec hG _ x hF).mono ?_
    rintro _ H2 ⟨rfl, hH2⟩
    have g24 : H2 r4 = some (.cells (dEx x) 27) := by rw [hH2]; exact upd_same _ _ _
    have hs2 : Sub H H2 := by rw [hH2]; exact hs1.up hr4 _
    have hs := fun z => hs2.up hr4 z
    cases hm : mayE x with
    | true =>
     simp (disch := omega) only [go_sem, g24, hlx, hox]
     exact DFin.sub (hs _) (.refl ⟨rfl, rfl⟩)
    | false =>
     simp (disch := omega) only [go_sem, g24, hlx, hox]
     exact Seen.fin (hs _) (Seen.tuple (.cons (Seen.ex0 (hs _)) (Seens.keep (hs _) _))) ⟨rfl, rfl⟩
end
end Go.Dl

-- Chapter 3: the package's writer: words, names.
namespace Go.Dl
open Go Go.Proofs
set_option maxRecDepth 100000
def WAt (B : DHeap) (r : Nat) (ts : List Tok) (H : DHeap) : Prop := ∃ v, OwnJ (upd B r (some (.cells [v] 83))) 52 4 ts.length (ts.flatMap dTok) v H
def WrC (P : Program) (G : Nat → DVal) (f : FuncId) (args : List DVal) (t : List Tok) : Prop :=
 ∀ B r ts H, B r = none → ts.length + t.length ≤ 1000000000 → WAt B r ts H → DCalls P G f (.optr r 0 :: args) H (fun e H' => e = .ret (.tuple []) ∧ WAt B r (ts ++ t) H')
section
variable {B B1 H H' : DHeap} {r x : Nat} {ts : List Tok}
theorem WAt.keep (h : WAt B r ts H) {o : DObj} (hx : B x = some o) (n : x ≠ r) : H x = some o := by
 obtain ⟨v, h⟩ := h
 exact h.keep (by rw [upd_ne _ _ _ _ n]; exact hx)
theorem WAt.lo (h : WAt B r ts H) (hx : H x = none) : B x = none ∧ x ≠ r := by
 obtain ⟨v, h⟩ := h
 have := h.sub.lo hx
 simp only [upd] at this
 split at this
 ·cases this
 ·exact ⟨this, ‹_›⟩
theorem WAt.new (h : WAt B r ts H) (hx : H x = none) (o : Option DObj) : WAt B r ts (upd H x o) := by
 obtain ⟨v, h⟩ := h
 exact ⟨v, h.new hx o⟩
theorem WAt.frame (h : WAt B r ts H) (hx : H x = none) (o : DObj) : WAt (upd B x (some o)) r ts (upd H x (some o)) := by
 have n := (h.lo hx).2
 obtain ⟨v, h⟩ := h
 refine ⟨v, ?_⟩
 rw [upd_swap n.symm]
 exact h.frame hx o
theorem WAt.less (h : WAt B r ts H) (s : Sub B1 B) : WAt B1 r ts H := by
 obtain ⟨v, h⟩ := h
 exact ⟨v, h.less (s.both r _)⟩
theorem WAt.drop {o : DObj} (h : WAt (upd B x (some o)) r ts H) (hx : B x = none) : WAt B r ts H := h.less ((Sub.refl B).new hx _)
end
section
variable {G : Nat → DVal} {H : DHeap}
theorem dToks_snoc (ts : List Tok) (t : Tok) : (ts ++ [t]).flatMap dTok = ts.flatMap dTok ++ dTok t := by simp
set_option maxHeartbeats 4000000 in
theorem put_spec (hG : GX G) (ws : List (List UInt8)) : WrC Tryz.prog G 107 [dW ws] (ws.map wTok) := by
 intro B r ts H hB hlen hw
 rw [List.length_map] at hlen
 refine dcalls_intro Tryz.func107 Tryz.call107 rfl (by kernel_rfl) ?_
 simp (disch := omega) only [go_sem, dW]
 obtain ⟨I, hI⟩ : ∃ I : Nat → (Nat → DVal) → DHeap → Prop, ∀ j env heap, I j env heap ↔ (env 0 = .optr r 0 ∧ env 7 = dW ws ∧ env 8 = dI ws.length ∧ env 9 = dI j ∧ j ≤ ws.length ∧ WAt B r (ts ++ (ws.take j).map wTok) heap) := ⟨_, fun _ _ _ => Iff.rfl⟩
 refine DLoop.run I (fun j => ws.length - j) 0 ((hI _ _ _).2 ?_) ?_
 ·simp (disch := omega) only [go_sem]
  (repeat' apply And.intro) <;> (try first | rfl | assumption | omega)
  simpa using hw
 ·intro j env heap hi
  obtain ⟨e0, e7, e8, e9, hj, hwj⟩ := (hI _ _ _).1 hi
  by_cases hlt : j < ws.length
  ·have hlt' : (j : Int) < (ws.length : Int) := by omega
   have hw1 : IntKind.i64.wrap ((j : Int) + 1) = ((j + 1 : Nat) : Int) := by rw [IntKind.wrap_i64]; omega
   have hget : (ws.map DVal.str)[j]? = some (.str ws[j]) := by rw [List.getElem?_map, List.getElem?_eq_getElem hlt]; rfl
   have hml : (ws.map DVal.str).length = ws.length := List.length_map _
   have htk : (ws.take (j + 1)).map wTok = (ws.take j).map wTok ++ [wTok ws[j]] := by rw [List.take_add_one, List.getElem?_eq_getElem hlt, Option.toList_some, List.map_append, List.map_singleton]
   obtain ⟨s, hse⟩ : ∃ s, s = ws[j] := ⟨_, rfl⟩
   rw [← hse] at hget htk
   simp (disch := omega) only [go_sem, e0, e7, e8, e9, hlt', dW, hget, hml, Int.toNat_natCast]
   intro r6 hr6; dsimp only at hr6
   simp (disch := omega) only [go_sem, e0, e7, e8, e9]
   obtain ⟨v, hv⟩ := hwj
   have gr := hv.keep (upd_same _ _ _)
   have n6 : r ≠ r6 := none_ne hr6 gr
   have m6 := n6.symm
   have hl2 : (ts ++ (ws.take j).map wTok).length ≤ 1000000000 := by rw [List.length_append, List.length_map, List.length_take]; omega
   refine (key_spec hG _ s).mono ?_
   rintro _ H2 ⟨rfl, rfl⟩
   cases hkb : keyB s with
   | true =>
    have hk : wTok s = ⟨2, 0, s, 0⟩ := by rw [wTok, kindW, hkb]; rfl
    simp (disch := omega) only [go_sem, e0, e7, e8, e9]
    refine dwp_draws (by kernel_rfl) (.take 0 (.take 1 (.take 2 (.take 3 (.take 4 (.take 5 (.go 6 [4] (.go 7 [] (.take 8 (.take 9 (.go 10 [] .done))))))))))) (by kernel_rfl) ?_
    simp (disch := omega) only [go_sem, e0, e7, e8, e9, gr, n6, m6]
    intro r24 hr24; dsimp only at hr24
    have n24 : r ≠ r24 := none_ne hr24 (keepU gr n6)
    have m24 := n24.symm
    have hv6 := (hv.new hr6 _).new hr24 (some (.cells (dTok (wTok s)) 52))
    simp (disch := omega) only [go_sem, e0, e7, e8, e9, gr, n6, m6, n24, m24]
    rw [hk] at hv6
    refine OwnJ.append (m := 1) hv6 rfl (by omega) fun v2 H6 hv2 => ?_
    have g6 := hv2.keep (upd_same _ _ _)
    obtain ⟨j1, j2⟩ := hv2.cell1
    simp (disch := omega) only [go_sem, e0, e7, e8, e9, g6, j1, j2]
    refine ⟨j + 1, _, GhostS.refl _, (hI _ _ _).2 ?_, by omega⟩
    simp (disch := omega) only [go_sem, e0, e7, e8, e9, hw1]
    (repeat' apply And.intro) <;> (try first | rfl | assumption | omega)
    refine ⟨v2, ?_⟩
    have hv3 := hv2.at (upd_same _ _ _) (some (.cells [v2] 83))
    rw [upd_upd] at hv3
    rw [htk, ← List.append_assoc, dToks_snoc, hk, List.length_append, List.length_singleton]
    exact hv3
   | false =>
    have hk : wTok s = ⟨4, 0, s, 0⟩ := by rw [wTok, kindW, hkb]; rfl
    simp (disch := omega) only [go_sem, e0, e7, e8, e9]
    refine dwp_draws (by kernel_rfl) (.take 0 (.take 1 (.take 2 (.take 3 (.take 4 (.take 5 (.go 6 [4] (.go 7 [] (.take 8 (.take 9 (.go 10 [] .done))))))))))) (by kernel_rfl) ?_
    simp (disch := omega) only [go_sem, e0, e7, e8, e9, gr, n6, m6]
    intro r24 hr24; dsimp only at hr24
    have n24 : r ≠ r24 := none_ne hr24 (keepU gr n6)
    have m24 := n24.symm
    have hv6 := (hv.new hr6 _).new hr24 (some (.cells (dTok (wTok s)) 52))
    simp (disch := omega) only [go_sem, e0, e7, e8, e9, gr, n6, m6, n24, m24]
    rw [hk] at hv6
    refine OwnJ.append (m := 1) hv6 rfl (by omega) fun v2 H6 hv2 => ?_
    have g6 := hv2.keep (upd_same _ _ _)
    obtain ⟨j1, j2⟩ := hv2.cell1
    simp (disch := omega) only [go_sem, e0, e7, e8, e9, g6, j1, j2]
    refine ⟨j + 1, _, GhostS.refl _, (hI _ _ _).2 ?_, by omega⟩
    simp (disch := omega) only [go_sem, e0, e7, e8, e9, hw1]
    (repeat' apply And.intro) <;> (try first | rfl | assumption | omega)
    refine ⟨v2, ?_⟩
    have hv3 := hv2.at (upd_same _ _ _) (some (.cells [v2] 83))
    rw [upd_upd] at hv3
    rw [htk, ← List.append_assoc, dToks_snoc, hk, List.length_append, List.length_singleton]
    exact hv3
  ·have : j = ws.length := by omega
   subst this
   have hlt' : ¬ (ws.length : Int) < (ws.length : Int) := by omega
   rw [List.take_length] at hwj
   simp (disch := omega) only [go_sem, e0, e7, e8, e9, hlt']
   exact DFin.refl ⟨rfl, hwj⟩
end
end Go.Dl

-- Chapter 3: the package's writer: names, parts, bounds, operators, membership, choices.
namespace Go.Dl
open Go Go.Proofs
set_option maxRecDepth 100000
section
variable {G : Nat → DVal} {H B : DHeap} {r : Nat} {ts : List Tok}
theorem WAt.ne {x : Nat} (h : WAt B r ts H) (hx : H x = none) : r ≠ x := fun e => (h.lo hx).2 e.symm
def WQ (B : DHeap) (r : Nat) (ts : List Tok) (e : DEnd) (H' : DHeap) : Prop := e = .ret (.tuple []) ∧ WAt B r ts H'
theorem put1 (hG : GX G) (s : List UInt8) {q : Nat} (hq : H q = none) (hB : B r = none) (hlen : ts.length + 1 ≤ 1000000000) (hw : WAt B r ts H) : DCalls Tryz.prog G 107 [.optr r 0, .oslice 1 q 0 1 1] (upd H q (some (.cells [.str s] 9))) (WQ B r (ts ++ [wTok s])) := by
 refine DCalls.fzA q hq ?_
 have n : r ≠ q := hw.ne hq
 simp only [fzs, fz, if_neg n, if_pos]
 exact put_spec hG [s] B r ts H hB hlen hw
theorem put2 (hG : GX G) (s t : List UInt8) {q : Nat} (hq : H q = none) (hB : B r = none) (hlen : ts.length + 2 ≤ 1000000000) (hw : WAt B r ts H) : DCalls Tryz.prog G 107 [.optr r 0, .oslice 1 q 0 2 2] (upd H q (some (.cells [.str s, .str t] 9))) (WQ B r (ts ++ [wTok s, wTok t])) := by
 refine DCalls.fzA q hq ?_
 have n : r ≠ q := hw.ne hq
 simp only [fzs, fz, if_neg n, if_pos]
 exact put_spec hG [s, t] B r ts H hB hlen hw
theorem wname_spec (G : Nat → DVal) (s : List UInt8) : WrC Tryz.prog G 108 [.str s] [nmTok s] := by
 intro B r ts H hB hlen hw
 rw [List.length_singleton] at hlen
 refine dcalls_intro Tryz.func108 Tryz.call108 rfl (by kernel_rfl) ?_
 simp (disch := omega) only [go_sem]
 obtain ⟨v, hv⟩ := hw
 have gr := hv.keep (upd_same _ _ _)
 simp (disch := omega) only [go_sem, gr]
 intro r6 hr6; dsimp only at hr6
 have n6 : r ≠ r6 := none_ne hr6 gr
 have m6 := n6.symm
 have hv6 := hv.new hr6 (some (.cells (dTok (nmTok s)) 52))
 simp (disch := omega) only [go_sem, gr, n6, m6]
 refine OwnJ.append (m := 1) hv6 rfl (by omega) fun v2 H6 hv2 => ?_
 have g6 := hv2.keep (upd_same _ _ _)
 obtain ⟨j1, j2⟩ := hv2.cell1
 simp (disch := omega) only [go_sem, g6, j1, j2]
 refine DFin.refl ⟨rfl, v2, ?_⟩
 have hv3 := hv2.at (upd_same _ _ _) (some (.cells [v2] 83))
 rw [upd_upd] at hv3
 rw [dToks_snoc, List.length_append, List.length_singleton]
 exact hv3
end
section
variable {G : Nat → DVal}
set_option maxHeartbeats 4000000 in
theorem wpart_spec (hG : GX G) (e : Ex) (lv : Int) (he : WrC Tryz.prog G 53 [.agg (dEx e)] (toksE e)) : WrC Tryz.prog G 109 [.agg (dEx e), dI lv] (partE e lv) := by
 intro B r ts H hB hlen hw
 refine dcalls_intro Tryz.func109 Tryz.call109 rfl (by kernel_rfl) ?_
 simp (disch := omega) only [go_sem, DVal.cells]
 intro r4 hr4; dsimp only at hr4
 obtain ⟨K, hK⟩ : ∃ K', K' = upd H r4 (some (.cells (dEx e) 27)) := ⟨_, rfl⟩
 rw [← hK]
 have gr4 : K r4 = some (.cells (dEx e) 27) := by rw [hK]; exact upd_same _ _ _
 have hwK : WAt (upd B r4 (some (.cells (dEx e) 27))) r ts K := by rw [hK]; exact hw.frame hr4 _
 have n4 : r ≠ r4 := hw.ne hr4
 have hB4 : B r4 = none := (hw.lo hr4).1
 have hBK : upd B r4 (some (.cells (dEx e) 27)) r = none := by rw [upd_ne _ _ _ _ n4]; exact hB
 simp (disch := omega) only [go_sem, gr4]
 refine (level_spec G K e).mono ?_
 rintro _ K1 ⟨rfl, rfl⟩
 by_cases c : levelE e < lv
 ·have c' : ¬ lv ≤ levelE e := by omega
  have hp : partE e lv = wTok wOpen :: (toksE e ++ [wTok wShut]) := by rw [partE, decide_eq_true c]; rfl
  rw [hp] at hlen ⊢
  simp only [List.length_cons, List.length_append, List.length_nil] at hlen
  simp (disch := omega) only [go_sem, c']
  intro q1 hq1; dsimp only at hq1
  simp (disch := omega) only [go_sem]
  refine (put1 hG wOpen hq1 hBK (by omega) hwK).mono ?_
  rintro _ H1 ⟨rfl, h1⟩
  have g1 := h1.keep (upd_same _ _ _) n4.symm
  simp (disch := omega) only [go_sem, g1]
  refine (he _ r _ _ hBK (by simp; omega) h1).mono ?_
  rintro _ H2 ⟨rfl, h2⟩
  simp (disch := omega) only [go_sem]
  intro q2 hq2; dsimp only at hq2
  simp (disch := omega) only [go_sem]
  refine (put1 hG wShut hq2 hBK (by simp; omega) h2).mono ?_
  rintro _ H3 ⟨rfl, h3⟩
  simp (disch := omega) only [go_sem]
  refine DFin.refl ⟨rfl, ?_⟩
  have := h3.drop hB4
  simpa using this
 ·have c' : lv ≤ levelE e := by omega
  have hp : partE e lv = toksE e := by rw [partE, decide_eq_false c]; rfl
  rw [hp] at hlen ⊢
  simp (disch := omega) only [go_sem, c', gr4]
  refine (he _ r _ _ hBK hlen hwK).mono ?_
  rintro _ H1 ⟨rfl, h1⟩
  simp (disch := omega) only [go_sem]
  exact DFin.refl ⟨rfl, h1.drop hB4⟩
end
end Go.Dl

-- Chapter 3: expressions: the plain laws, part 9: reading without the lines.
namespace Go.Dl
open Go
set_option maxRecDepth 10000
mutual
/-- Without lines, entities, types. -/
def stE : Ex → Ex
 | .mk k o n s l a _ _ _ => .mk k o n s (stL l) (stAs a) 0 0 0
def stL : List Ex → List Ex
 | [] => []
 | x :: l => stE x :: stL l
def stA : As → As
 | .mk c e => .mk (stCs c) (stE e)
def stAs : List As → List As
 | [] => []
 | x :: l => stA x :: stAs l
def stC : Ch → Ch
 | .mk k l => .mk k (stL l)
def stCs : List Ch → List Ch
 | [] => []
 | x :: l => stC x :: stCs l
end
mutual
theorem same_stE : ∀ e f : Ex, sameE e f = true ↔ stE e = stE f
 | .mk k o n s l a li en t, .mk k' o' n' s' l' a' li' en' t' => by
  rw [sameE, stE, stE]
  show (decide (k = k') && decide (o = o') && decide (n = n') && decide (s = s') && sameLE l l' && sameAs a a') = true ↔ _
  simp only [Bool.and_eq_true, decide_eq_true_eq, same_stL l l', same_stAs a a', Ex.mk.injEq, and_true, and_assoc]
theorem same_stL : ∀ l m : List Ex, sameLE l m = true ↔ stL l = stL m
 | [], [] => by simp [sameLE, stL]
 | [], y :: m => by simp [sameLE, stL]
 | x :: l, [] => by simp [sameLE, stL]
 | x :: l, y :: m => by rw [sameLE, stL, stL, Bool.and_eq_true, same_stE x y, same_stL l m, List.cons.injEq]
theorem same_stA : ∀ x y : As, sameA x y = true ↔ stA x = stA y
 | .mk c e, .mk c' e' => by
  rw [sameA, stA, stA]
  show (sameCs c c' && sameE e e') = true ↔ _
  simp only [Bool.and_eq_true, same_stCs c c', same_stE e e', As.mk.injEq]
theorem same_stAs : ∀ l m : List As, sameAs l m = true ↔ stAs l = stAs m
 | [], [] => by simp [sameAs, stAs]
 | [], y :: m => by simp [sameAs, stAs]
 | x :: l, [] => by simp [sameAs, stAs]
 | x :: l, y :: m => by rw [sameAs, stAs, stAs, Bool.and_eq_true, same_stA x y, same_stAs l m, List.cons.injEq]
theorem same_stC : ∀ x y : Ch, sameC x y = true ↔ stC x = stC y
 | .mk k l, .mk k' l' => by
  rw [sameC, stC, stC]
  show (decide (k = k') && sameLE l l') = true ↔ _
  simp only [Bool.and_eq_true, decide_eq_true_eq, same_stL l l', Ch.mk.injEq]
theorem same_stCs : ∀ l m : List Ch, sameCs l m = true ↔ stCs l = stCs m
 | [], [] => by simp [sameCs, stCs]
 | [], y :: m => by simp [sameCs, stCs]
 | x :: l, [] => by simp [sameCs, stCs]
 | x :: l, y :: m => by rw [sameCs, stCs, stCs, Bool.and_eq_true, same_stC x y, same_stCs l m, List.cons.injEq]
end
section
end
end Go.Dl

-- Chapter 3: expressions: the plain laws, part 10: what reading asks of the first token, and of the one behind.
namespace Go.Dl
open Go
set_option maxRecDepth 10000
def w5 : List (List UInt8) := [wDot, wOpen, wTick]
def w3 : List (List UInt8) := w5 ++ [[42], [47], wMod, wRem]
def w2 : List (List UInt8) := w3 ++ [[43], [45]]
def w2d : List (List UInt8) := w2 ++ [wDots]
def w1 : List (List UInt8) := w2d ++ [[61], [47, 61], [60], [60, 61], [62], [62, 61], wIn, wNot]
def w0 : List (List UInt8) := w1 ++ [wAnd, wOr, wXor]
def nof (ws : List (List UInt8)) (t : Tok) : Prop := ∀ s ∈ ws, ¬ (t.kind = kindW s ∧ t.text = s)
instance (ws : List (List UInt8)) (t : Tok) : Decidable (nof ws t) := inferInstanceAs (Decidable (∀ s ∈ ws, ¬ (t.kind = kindW s ∧ t.text = s)))
theorem nof_sub {ws ws' : List (List UInt8)} {t : Tok} (h : nof ws t) (hs : ∀ s ∈ ws', s ∈ ws) : nof ws' t := fun s m => h s (hs s m)
class Rdr (l : outParam (List Tok)) (p : PS) : Prop where
 fix : p.Fix l
 adv : p.Adv l
instance (l : List Tok) : Rdr l (Q l) := ⟨Q_fix, Q_adv⟩
section
end
end Go.Dl

-- Chapter 3: expressions: the plain laws, part 11: reading the tokens of an expression.
namespace Go.Dl
open Go
set_option maxRecDepth 10000
def At (l : List Tok) (k : Nat) (ts : List Tok) : Prop := k ≤ l.length ∧ ts <+: l.drop k
section
variable {l : List Tok} {k k' : Nat} {s : List UInt8} {p : PS} [hr : Rdr l p]
theorem At.le {ts : List Tok} (h : At l k ts) : k + ts.length ≤ l.length := by
 have := h.2.length_le
 rw [List.length_drop] at this
 have := h.1; omega
theorem At.right {a b : List Tok} (h : At l k (a ++ b)) : At l (k + a.length) b := by
 obtain ⟨r, hr⟩ := h.2
 have := h.le
 rw [List.length_append] at this
 refine ⟨by omega, r, ?_⟩
 rw [← List.drop_drop, ← hr, List.append_assoc, List.drop_left]
theorem At.head {t : Tok} {ts : List Tok} (h : At l k (t :: ts)) : tk l k = t ∧ k < l.length := by
 obtain ⟨r, hr⟩ := h.2
 have hl := h.le
 rw [List.length_cons] at hl
 have hk : k < l.length := by omega
 refine ⟨?_, hk⟩
 have : (l.drop k)[0]? = some t := by rw [← hr]; rfl
 rw [List.getElem?_drop, Nat.add_zero] at this
 rw [tk, List.getD, this]; rfl
theorem At.tail {t : Tok} {ts : List Tok} (h : At l k (t :: ts)) : At l (k + 1) ts := At.right (a := [t]) h
theorem s10 {t : Tok} (h : nof w0 t) : nof w1 t := nof_sub h (by decide)
section
end
end
end Go.Dl

-- Chapter 3: expressions: the plain laws, part 12: the tokens of an expression are read as that expression.
namespace Go.Dl
open Go
set_option maxRecDepth 10000
theorem len1 {l : List Ex} (h : l.length = 1) : ∃ x, l = [x] := by
 match l, h with
 | [x], _ => exact ⟨x, rfl⟩
theorem len2 {l : List Ex} (h : l.length = 2) : ∃ x y, l = [x, y] := by
 match l, h with
 | [x, y], _ => exact ⟨x, y, rfl⟩
theorem len3 {l : List Ex} (h : l.length = 3) : ∃ x y z, l = [x, y, z] := by
 match l, h with
 | [x, y, z], _ => exact ⟨x, y, z, rfl⟩
theorem namedN1 {e : Ex} (h : namedN e 1 = true) : ∃ x, e.l = [x] ∧ namedE x = true := by
 rw [namedN, Bool.and_eq_true, decide_eq_true_eq] at h
 obtain ⟨x, hx⟩ := len1 h.1
 rw [hx] at h
 exact ⟨x, hx, h.2⟩
theorem namedN2 {e : Ex} (h : namedN e 2 = true) : ∃ x y, e.l = [x, y] ∧ namedE x = true := by
 rw [namedN, Bool.and_eq_true, decide_eq_true_eq] at h
 obtain ⟨x, y, hx⟩ := len2 h.1
 rw [hx] at h
 exact ⟨x, y, hx, h.2⟩
section
variable {e : Ex}
theorem ff1 (h : e.kind = 1) (hf : fieldsE e = true) : e.l = [] ∧ e.oper = 0 ∧ e.s = [] ∧ e.a = [] := by
 have : fieldsE e = (e.l.isEmpty && decide (0 ≤ e.n) && decide (e.n ≤ 2147483647) && zO e && zS e && zA e) := by unfold fieldsE; rw [h]; rfl
 rw [this] at hf
 simp only [Bool.and_eq_true, zO, zS, zA, decide_eq_true_eq, List.isEmpty_iff] at hf
 exact ⟨hf.1.1.1.1.1, hf.1.1.2, hf.1.2, hf.2⟩
theorem ff46 (h : e.kind = 4 ∨ e.kind = 6) (hf : fieldsE e = true) : (∃ x, e.l = [x] ∧ namedE x = true) ∧ e.oper = 0 ∧ e.n = 0 ∧ e.a = [] := by
 have : fieldsE e = (namedN e 1 && nameB e.s && zO e && zN e && zA e) := by rcases h with h | h <;> (unfold fieldsE; rw [h]; rfl)
 rw [this] at hf
 simp only [Bool.and_eq_true, zO, zN, zA, decide_eq_true_eq, List.isEmpty_iff] at hf
 exact ⟨namedN1 hf.1.1.1.1, hf.1.1.2, hf.1.2, hf.2⟩
theorem ff5 (h : e.kind = 5) (hf : fieldsE e = true) : (∃ x, e.l = [x] ∧ namedE x = true) ∧ e.oper = 0 ∧ e.n = 0 ∧ e.s = [] ∧ e.a = [] := by
 have : fieldsE e = (namedN e 1 && zO e && zN e && zS e && zA e) := by unfold fieldsE; rw [h]; rfl
 rw [this] at hf
 simp only [Bool.and_eq_true, zO, zN, zS, zA, decide_eq_true_eq, List.isEmpty_iff] at hf
 exact ⟨namedN1 hf.1.1.1.1, hf.1.1.1.2, hf.1.1.2, hf.1.2, hf.2⟩
theorem ff7 (h : e.kind = 7) (hf : fieldsE e = true) : (∃ x, e.l = [x] ∧ namedE x = true) ∧ argsOk e.a = true ∧ e.oper = 0 ∧ e.n = 0 ∧ e.s = [] := by
 have : fieldsE e = (namedN e 1 && argsOk e.a && zO e && zN e && zS e) := by unfold fieldsE; rw [h]; rfl
 rw [this] at hf
 simp only [Bool.and_eq_true, zO, zN, zS, decide_eq_true_eq] at hf
 exact ⟨namedN1 hf.1.1.1.1, hf.1.1.1.2, hf.1.1.2, hf.1.2, hf.2⟩
theorem ff8 (h : e.kind = 8) (hf : fieldsE e = true) : (∃ x y, e.l = [x, y] ∧ namedE x = true) ∧ e.oper = 0 ∧ e.n = 0 ∧ e.s = [] ∧ e.a = [] := by
 have : fieldsE e = (namedN e 2 && zO e && zN e && zS e && zA e) := by unfold fieldsE; rw [h]; rfl
 rw [this] at hf
 simp only [Bool.and_eq_true, zO, zN, zS, zA, decide_eq_true_eq, List.isEmpty_iff] at hf
 exact ⟨namedN2 hf.1.1.1.1, hf.1.1.1.2, hf.1.1.2, hf.1.2, hf.2⟩
theorem ff9 (h : e.kind = 9) (hf : fieldsE e = true) : e.l = [] ∧ assocsOk e.a = true ∧ e.oper = 0 ∧ e.n = 0 ∧ e.s = [] := by
 have : fieldsE e = (e.l.isEmpty && assocsOk e.a && zO e && zN e && zS e) := by unfold fieldsE; rw [h]; rfl
 rw [this] at hf
 simp only [Bool.and_eq_true, zO, zN, zS, decide_eq_true_eq, List.isEmpty_iff] at hf
 exact ⟨hf.1.1.1.1, hf.1.1.1.2, hf.1.1.2, hf.1.2, hf.2⟩
theorem ff10 (h : e.kind = 10) (hf : fieldsE e = true) : (∃ x y z, e.l = [x, y, z]) ∧ e.oper = 0 ∧ e.n = 0 ∧ e.s = [] ∧ e.a = [] := by
 have : fieldsE e = (decide (e.l.length = 3) && zO e && zN e && zS e && zA e) := by unfold fieldsE; rw [h]; rfl
 rw [this] at hf
 simp only [Bool.and_eq_true, zO, zN, zS, zA, decide_eq_true_eq, List.isEmpty_iff] at hf
 exact ⟨len3 hf.1.1.1.1, hf.1.1.1.2, hf.1.1.2, hf.1.2, hf.2⟩
theorem ff11 (h : e.kind = 11) (hf : fieldsE e = true) : (∃ x, e.l = [x]) ∧ (∃ o : Nat, e.oper = o ∧ (o = 18 ∨ o = 19 ∨ o = 20 ∨ o = 21)) ∧ e.n = 0 ∧ e.s = [] ∧ e.a = [] := by
 have : fieldsE e = (decide (e.l.length = 1) && decide (18 ≤ e.oper) && decide (e.oper ≤ 21) && zN e && zS e && zA e) := by unfold fieldsE; rw [h]; rfl
 rw [this] at hf
 simp only [Bool.and_eq_true, zN, zS, zA, decide_eq_true_eq, List.isEmpty_iff] at hf
 exact ⟨len1 hf.1.1.1.1.1, ⟨e.oper.toNat, by omega, by omega⟩, hf.1.1.2, hf.1.2, hf.2⟩
theorem ff12 (h : e.kind = 12) (hf : fieldsE e = true) : (∃ x y, e.l = [x, y]) ∧ (∃ o : Nat, e.oper = o ∧ 1 ≤ o ∧ o ≤ 17) ∧ e.n = 0 ∧ e.s = [] ∧ e.a = [] := by
 have : fieldsE e = (decide (e.l.length = 2) && decide (1 ≤ e.oper) && decide (e.oper ≤ 17) && zN e && zS e && zA e) := by unfold fieldsE; rw [h]; rfl
 rw [this] at hf
 simp only [Bool.and_eq_true, zN, zS, zA, decide_eq_true_eq, List.isEmpty_iff] at hf
 exact ⟨len2 hf.1.1.1.1.1, ⟨e.oper.toNat, by omega, by omega, by omega⟩, hf.1.1.2, hf.1.2, hf.2⟩
theorem ff134 (h : e.kind = 13 ∨ e.kind = 14) (hf : fieldsE e = true) : ((∃ x y z, e.l = [x, y, z]) ∨ ∃ x y, e.l = [x, y] ∧ namedE y = true) ∧ e.oper = 0 ∧ e.n = 0 ∧ e.s = [] ∧ e.a = [] := by
 have : fieldsE e = ((decide (e.l.length = 3) || decide (e.l.length = 2) && namedE (e.l.getD 1 ex0)) && zO e && zN e && zS e && zA e) := by rcases h with h | h <;> (unfold fieldsE; rw [h]; rfl)
 rw [this] at hf
 simp only [Bool.and_eq_true, Bool.or_eq_true, zO, zN, zS, zA, decide_eq_true_eq, List.isEmpty_iff] at hf
 refine ⟨?_, hf.1.1.1.2, hf.1.1.2, hf.1.2, hf.2⟩
 rcases hf.1.1.1.1 with h3 | h2
 ·exact .inl (len3 h3)
 ·obtain ⟨x, y, hx⟩ := len2 h2.1
  rw [hx] at h2
  exact .inr ⟨x, y, hx, h2.2⟩
theorem nm_of (h : 3 ≤ e.kind ∧ e.kind ≤ 8) : namedE e = true := by rw [namedE, decide_eq_true h.1, decide_eq_true h.2]; rfl
theorem nm_not (h : e.kind < 3 ∨ 8 < e.kind) : namedE e = true → False := fun c => by
 rw [namedE, Bool.and_eq_true, decide_eq_true_eq, decide_eq_true_eq] at c; omega
end
section
end
end Go.Dl

-- Chapter 3: expressions: the plain laws, part 13: the tokens of an expression are read as that expression: each kind.
namespace Go.Dl
open Go
set_option maxRecDepth 10000
theorem assocAll_mem : ∀ {l : List As}, assocAll l = true → ∀ a ∈ l, (a.c.isEmpty || rightCs a.c) = true
 | [], _, a, h => by cases h
 | b :: r, h, a, hm => by
  rw [assocAll, Bool.and_eq_true] at h
  rcases List.mem_cons.1 hm with rfl | hm
  ·have := h.1
   rw [Bool.or_eq_true] at this ⊢
   rcases this with h1 | h1
   ·exact .inl h1
   ·rw [Bool.and_eq_true] at h1; exact .inr h1.1
  ·exact assocAll_mem h.2 a hm
section
end
end Go.Dl

-- Chapter 3: expressions: the plain laws, part 14: the tokens of an expression are read as that expression: operators, membership; all.
namespace Go.Dl
open Go
set_option maxRecDepth 10000
section
end
theorem valid_fields {d : Nat} {e : Ex} (h : validE d e = true) : fieldsE e = true ∧ ∀ x ∈ parts e, validE (d + 1) x = true := by
 rw [validE_eq, Bool.and_eq_true, Bool.and_eq_true, List.all_eq_true] at h
 exact ⟨h.1.2, h.2⟩
end Go.Dl
