/-
  THE DATA LEVEL, PART M: objects that are no rows of cells; maps.
-/
import Derived.Test.YtimnmempnhjbfaaDc
set_option linter.unusedSimpArgs false
set_option linter.unusedVariables false
namespace Go.Dl
open Go

section
/-- The book-keeping of loops over iterators. -/
def isBook : Obj → Bool
  | .loop _ => true
  | .deferred _ => true
  | .map _ _ => true
  | _ => false

theorem csize_putObj {w : World} {l : Nat} {o o' : Obj} (hl : w.heap[l]? = some o) (h : isBook o = true) (h' : isBook o' = true) (b : Nat) : csize (w.putObj l o').heap[b]? = csize w.heap[b]? := by
  have hlt : l < w.heap.size := (Array.getElem?_eq_some_iff.1 hl).1
  by_cases e : b = l
  · subst e; rw [World.putObj_heap_same hlt, hl]
    cases o <;> first | cases h; done | (cases o' <;> first | rfl | cases h'; done)
  · rw [World.putObj_heap_other e]

/-- An object that is no row of cells is turned into another. -/
theorem putObj_lasts {w : World} {l : Nat} {o o' : Obj} (hl : w.heap[l]? = some o) (h : isBook o = true) (h' : isBook o' = true) (H : DHeap) : Lasts H w H (w.putObj l o') := by
  refine ⟨fun b i x hb hc => ⟨hb, ?_⟩, by simp [World.putObj], fun b hb => csize_putObj hl h h' b⟩
  by_cases e : b = l
  · subst e; unfold World.cell? at hc; rw [hl] at hc; cases o <;> first | cases h; done | simp at hc
  · unfold World.cell? at hc ⊢
    simp only [World.putObj_heap_other e]; exact hc

theorem putObj_fz {w : World} {l : Nat} {o o' : Obj} (hl : w.heap[l]? = some o) (h : isBook o = true) (h' : isBook o' = true) (a : Addr) : (w.putObj l o').frozen? a = w.frozen? a := by
  have hlt : l < w.heap.size := (Array.getElem?_eq_some_iff.1 hl).1
  unfold World.frozen?
  by_cases e : a.block = l
  · rw [e, World.putObj_heap_same hlt, hl]
    cases o <;> first | cases h; done | (cases o' <;> first | rfl | cases h'; done)
  · rw [World.putObj_heap_other e]

theorem putObj_sim {w : World} {l : Nat} {o o' : Obj} {H : DHeap} (hl : w.heap[l]? = some o) (h : isBook o = true) (h' : isBook o' = true) (hH : SimHeap w H) (hn : H l = none) : SimHeap (w.putObj l o') H := by
  intro r ob ho
  have hr : r ≠ l := fun e => by rw [e, hn] at ho; cases ho
  rw [World.putObj_heap_other hr]
  exact (hH r ob ho).lasts (putObj_lasts hl h h' H)


theorem getObj_book {P : Program} {w : World} {r : Nat} {o : Obj} (h : w.heap[r]? = some o) (hb : isBook o = true) : (getObj r).run P w = .ok o w := by
  simp only [getObj, Sem.run, h]; cases o <;> first | rfl | cases hb
theorem setObj_book {P : Program} {w : World} {r : Nat} {o : Obj} (o' : Obj) (h : w.heap[r]? = some o) (hb : isBook o = true) : (setObj r o').run P w = .ok () (w.putObj r o') := by
  simp only [setObj, Sem.run, h, World.putObj]; cases o <;> first | rfl | cases hb

/-- An own object of that kind is turned. -/
theorem own_book {w : World} {H : DHeap} {r : Nat} {o o' : Obj} {ob : DObj} (hH : SimHeap w H) (hr : H r ≠ none) (ho : w.heap[r]? = some o) (h : isBook o = true) (h' : isBook o' = true)
    (hob : ∀ w' H', Lasts H w H' w' → RelObj w' H' ob (some o')) : SimHeap (w.putObj r o') (upd H r (some ob)) ∧ Ext H w (upd H r (some ob)) (w.putObj r o') := by
  have hlt : r < w.heap.size := (Array.getElem?_eq_some_iff.1 ho).1
  have hl : Lasts H w (upd H r (some ob)) (w.putObj r o') := by
    have h1 := putObj_lasts ho h h' H
    refine ⟨fun b i x hb hc => ⟨?_, (h1.cell b i x hb hc).2⟩, h1.size, h1.keep⟩
    have : b ≠ r := fun e => hr (e ▸ hb)
    simp [upd, this, hb]
  refine ⟨fun b x hx => ?_, by rfl, by rfl, by rfl, by simp, fun b hb hn => ?_, fun b hb => ?_, fun b hb => csize_putObj ho h h' b, fun a => putObj_fz ho h h' a⟩
  · by_cases e : b = r
    · subst e
      simp only [upd, if_pos] at hx; cases hx
      rw [World.putObj_heap_same hlt]
      exact hob _ _ hl
    · simp only [upd, if_neg e] at hx
      rw [World.putObj_heap_other e]
      exact (hH b x hx).lasts hl
  · rw [World.putObj_heap_other (fun e => hr (by rw [← e]; exact hn))]
  · by_cases e : b = r
    · exact .inl (e ▸ hr)
    · simp only [upd, if_neg e] at hb; exact .inl hb

/-- A new object of that kind. -/
theorem new_book {w : World} {H : DHeap} {o : Obj} {ob : DObj} (hH : SimHeap w H) (h : isBook o = true)
    (hob : ∀ w' H', Lasts H w H' w' → RelObj w' H' ob (some o)) : SimHeap (w.alloc o) (upd H w.heap.size (some ob)) ∧ Ext H w (upd H w.heap.size (some ob)) (w.alloc o) := by
  have hbl : ∀ b, b < w.heap.size → (w.alloc o).heap[b]? = w.heap[b]? := fun b hb => by
    show (w.heap.push o)[b]? = _
    rw [Array.getElem?_push, if_neg (by omega)]
  have hE : Ext H w (upd H w.heap.size (some ob)) (w.alloc o) := by
    refine ⟨rfl, rfl, rfl, by simp, fun b hb _ => hbl b hb, fun b hb => ?_, fun b hb => by rw [hbl b hb], fun a => ?_⟩
    · by_cases eb : b = w.heap.size
      · exact .inr (by omega)
      · simp only [upd, if_neg eb] at hb; exact .inl hb
    · unfold World.frozen?
      have hh : (w.alloc o).heap[a.block]? = if a.block = w.heap.size then some o else w.heap[a.block]? := by
        show (w.heap.push o)[a.block]? = _
        rw [Array.getElem?_push]
      rw [hh]
      by_cases e : a.block = w.heap.size
      · rw [if_pos e, e, Array.getElem?_eq_none (Nat.le_refl _)]
        cases o <;> first | cases h; done | rfl
      · rw [if_neg e]
  refine ⟨fun r x hx => ?_, hE⟩
  by_cases e : r = w.heap.size
  · subst e
    simp only [upd, if_pos] at hx; cases hx
    have : (w.alloc o).heap[w.heap.size]? = some o := by
      show (w.heap.push o)[w.heap.size]? = _
      simp
    rw [this]
    exact hob _ _ hE.lasts
  · simp only [upd, if_neg e] at hx
    rw [hbl r (hH.lt (by simp [hx]))]
    exact (hH r x hx).lasts hE.lasts
end

section
variable {P : Program} {G : Nat → DVal} {N : Fr}
variable {o : Oper} {s : DS} {a : Act} {w : World} {K : DK} {Qx : Exit → Act → World → Prop}

theorem s_makeMap (hS : Sim G N s a w) (hd : dstOk N o.dst = true) {t : TypeId} {x : Option Operand} (hx : (match x with | some x => opdOk N x | none => true) = true) (he : o.op = .makeMap t x)
    (h : dMakeMap o.dst (P.underlying t) (devO G s.env x) K s) : o.wp P a w (NextS G N K s w) Qx := by
  obtain ⟨k1, k2⟩ := new_book (o := .map #[] 0) (ob := .map []) hS.heap rfl (fun w' H' _ => ⟨#[], 0, rfl, rfl⟩)
  have hfr := hS.heap.fresh
  generalize hu : P.underlying t = u at h
  rcases rel_devO hS hx with ⟨rfl, e⟩ | ⟨y, rfl, e, r⟩
  · rw [e] at h
    unfold dMakeMap at h
    split at h <;> try exact h.elim
    · refine op_world hS hd (x := .map (some w.heap.size)) ?_ k2 k1 (by simp [Rel]) (h _ hfr)
      simp [execOp, he, Instr.makeMap, run_newObj_alloc]
    · rename_i e2; cases e2
  · rw [e] at h
    cases hdv : dev G s.env y <;> rw [hdv] at h r <;> (unfold dMakeMap at h; split at h <;> try exact h.elim)
    all_goals try (rename_i e2; cases e2; done)
    all_goals
      simp only [Rel] at r
      refine op_world hS hd (x := .map (some w.heap.size)) ?_ k2 k1 (by simp [Rel]) (h _ hfr)
      simp [execOp, he, Instr.makeMap, run_newObj_alloc, run_underlying hu, r, asInt, asIntOf]

theorem RelM.len {w : World} {H : DHeap} : ∀ {es : List (DVal × DVal)} {ms : List MapEntry}, RelM w H es ms → es.length = ms.length
  | [], _, h => by rw [show _ = _ from h]; rfl
  | p :: es, ms, h => by
    obtain ⟨m, ms', rfl, _, _, h3⟩ := h
    simp [RelM.len h3]
theorem RelM.get {w : World} {H : DHeap} : ∀ {es : List (DVal × DVal)} {ms : List MapEntry}, RelM w H es ms → ∀ {i : Nat} {p : DVal × DVal}, es[i]? = some p → ∃ m, ms[i]? = some m ∧ Rel w H p.1 m.key ∧ Rel w H p.2 m.val
  | [], _, _, i, p, hp => by simp at hp
  | q :: es, ms, h, i, p, hp => by
    obtain ⟨m, ms', rfl, h1, h2, h3⟩ := h
    cases i with
    | zero => simp at hp; subst hp; exact ⟨m, rfl, h1, h2⟩
    | succ i => simp at hp; obtain ⟨m', e1, e2⟩ := RelM.get h3 hp; exact ⟨m', by simpa using e1, e2⟩
theorem RelM.app {w : World} {H : DHeap} : ∀ {es fs : List (DVal × DVal)} {ms ns : List MapEntry}, RelM w H es ms → RelM w H fs ns → RelM w H (es ++ fs) (ms ++ ns)
  | [], _, _, _, h, k => by rw [show _ = _ from h]; exact k
  | p :: es, fs, ms, ns, h, k => by
    obtain ⟨m, ms', rfl, h1, h2, h3⟩ := h
    exact ⟨m, ms' ++ ns, rfl, h1, h2, RelM.app h3 k⟩
theorem RelM.set {w : World} {H : DHeap} : ∀ {es : List (DVal × DVal)} {ms : List MapEntry}, RelM w H es ms → ∀ (i : Nat) {p : DVal × DVal} {m : MapEntry}, Rel w H p.1 m.key → Rel w H p.2 m.val → RelM w H (es.set i p) (ms.set i m)
  | [], _, h, i, p, m, _, _ => by rw [show _ = _ from h]; exact rfl
  | q :: es, ms, h, 0, p, m, k1, k2 => by
    obtain ⟨m', ms', rfl, h1, h2, h3⟩ := h
    exact ⟨m, ms', rfl, k1, k2, h3⟩
  | q :: es, ms, h, i + 1, p, m, k1, k2 => by
    obtain ⟨m', ms', rfl, h1, h2, h3⟩ := h
    exact ⟨m', _, rfl, h1, h2, RelM.set h3 i k1 k2⟩
theorem RelM.erase {w : World} {H : DHeap} : ∀ {es : List (DVal × DVal)} {ms : List MapEntry}, RelM w H es ms → ∀ (i : Nat), RelM w H (es.eraseIdx i) (ms.eraseIdx i)
  | [], _, h, i => by rw [show _ = _ from h]; exact rfl
  | q :: es, ms, h, 0 => by
    obtain ⟨m', ms', rfl, h1, h2, h3⟩ := h
    exact h3
  | q :: es, ms, h, i + 1 => by
    obtain ⟨m', ms', rfl, h1, h2, h3⟩ := h
    exact ⟨m', _, rfl, h1, h2, RelM.erase h3 i⟩

theorem key_same {w : World} {H : DHeap} {d : TypeDesc} {k k' : DVal} {x x' : Value} (hk : dKeyT (some d) k = true) (h : Rel w H k x) (h' : Rel w H k' x') {b : Bool} (hb : dKey k k' = some b) : Instr.sameNow d x x' = some b := by
  cases k <;> first | (cases d <;> (simp [dKeyT] at hk; done)) | skip
  case int kk n =>
    cases d <;> simp [dKeyT] at hk
    subst hk
    cases k' <;> simp only [dKey] at hb <;> try (cases hb; done)
    rename_i k2 m
    split at hb
    · rename_i e; subst e
      cases hb
      simp only [Rel] at h h'
      subst h; subst h'
      simp only [Instr.sameNow, if_true]
      rfl
    · cases hb
  case str l =>
    cases d <;> simp [dKeyT] at hk
    cases k' <;> simp only [dKey] at hb <;> try (cases hb; done)
    cases hb
    simp only [Rel] at h h'
    subst h; subst h'
    simp only [Instr.sameNow]
    rename_i s1
    have e1 : ((⟨⟨l⟩⟩ : ByteArray) == ⟨⟨s1⟩⟩) = ((⟨l⟩ : Array UInt8) == ⟨s1⟩) := rfl
    rw [e1]
    congr 1
    rw [Bool.eq_iff_iff]; simp
  case bool l =>
    cases d <;> simp [dKeyT] at hk
    cases k' <;> simp only [dKey] at hb <;> try (cases hb; done)
    cases hb
    simp only [Rel] at h h'
    subst h; subst h'
    simp only [Instr.sameNow]
    rename_i b1; cases l <;> cases b1 <;> rfl

theorem find_now {w : World} {H : DHeap} {d : TypeDesc} {k : DVal} {x : Value} (hk : dKeyT (some d) k = true) (h : Rel w H k x) : ∀ {es : List (DVal × DVal)} {ms : List MapEntry}, RelM w H es ms → ∀ (i : Nat) {r : Option Nat}, dFind k es i = some r →
    Instr.findNow d x ms i = some (r.bind fun j => (ms[j - i]?).map fun m => (j, m.val)) ∧ ∀ j, r = some j → i ≤ j
  | [], ms, hm, i, r, hf => by
    rw [show ms = [] from hm]
    simp only [dFind] at hf; cases hf
    exact ⟨rfl, fun j hj => by cases hj⟩
  | p :: es, ms, hm, i, r, hf => by
    obtain ⟨m, ms', rfl, h1, h2, h3⟩ := hm
    simp only [dFind] at hf
    cases hb : dKey k p.1 with
    | none => rw [hb] at hf; cases hf
    | some b =>
      rw [hb] at hf
      have hs := key_same hk h h1 hb
      cases b with
      | true =>
        simp only [dFindS] at hf; cases hf
        simp only [Instr.findNow, hs]
        exact ⟨by simp, fun j hj => by cases hj; exact Nat.le_refl _⟩
      | false =>
        simp only [dFindS] at hf
        obtain ⟨g1, g2⟩ := find_now hk h h3 (i + 1) hf
        simp only [Instr.findNow, hs, g1]
        refine ⟨?_, fun j hj => by have := g2 j hj; omega⟩
        cases r with
        | none => rfl
        | some j =>
          have := g2 j rfl
          simp only [Option.bind_some]
          rw [show j - i = (j - (i + 1)) + 1 by omega]
          simp

theorem run_findKey {w : World} {H : DHeap} {kt : TypeId} {k : DVal} {x : Value} (hk : dKeyT (P.underlying kt) k = true) (h : Rel w H k x) {es : List (DVal × DVal)} {ms : List MapEntry} (hm : RelM w H es ms) {r : Option Nat} (hf : dFind k es 0 = some r) :
    (Instr.findKey kt x ms).run P w = .ok (r.bind fun j => (ms[j]?).map fun m => (j, m.val)) w := by
  cases hu : P.underlying kt with
  | none => rw [hu] at hk; cases hk
  | some d =>
    rw [hu] at hk
    obtain ⟨g1, _⟩ := find_now hk h hm 0 hf
    simp only [Nat.sub_zero] at g1
    simp [Instr.findKey, run_underlying hu, g1]

theorem run_checkKey {w : World} {H : DHeap} {kt : TypeId} {k : DVal} {x : Value} {b : Bool} (hk : dKeyT (P.underlying kt) k = true) (h : Rel w H k x) (n : Nat) : (Instr.checkKey b (n + 1) kt x).run P w = .ok () w := by
  cases hu : P.underlying kt with
  | none => rw [hu] at hk; cases hk
  | some d =>
    rw [hu] at hk
    unfold dKeyT at hk
    split at hk <;> first | (cases hk; done) | (rename_i e; cases e; simp only [Rel] at h; subst h; simp [Instr.checkKey, run_underlying hu])


theorem s_lookup (hS : Sim G N s a w) (hd : dstOk N o.dst = true) {t : TypeId} {x k : Operand} {ok : Bool} (hx : opdOk N x = true) (hk : opdOk N k = true) (he : o.op = .lookup t x k ok)
    (h : dLookup P ok o.dst (P.underlying t) (dev G s.env x) (dev G s.env k) K s) : o.wp P a w (NextS G N K s w) Qx := by
  have rx := rel_dev hS hx
  have rk := rel_dev hS hk
  generalize hu : P.underlying t = u at h
  generalize dev G s.env x = dx at h rx
  generalize dev G s.env k = dk at h rk
  unfold dLookup at h
  split at h <;> try exact h.elim
  · rename_i kt e r
    obtain ⟨hkt, h⟩ := h
    simp only [Rel] at rx
    cases hh : s.heap r with
    | none => rw [hh] at h; exact h.elim
    | some ob =>
      cases ob with
      | loop => rw [hh] at h; exact h.elim
      | cells => rw [hh] at h; exact h.elim
      | map es =>
        rw [hh] at h
        simp only [dLookO] at h
        obtain ⟨ms, clock, ho, hm⟩ := hS.heap r _ hh
        cases hf : dFind dk es 0 with
        | none => rw [hf] at h; cases hz : zeroOf P e <;> rw [hz] at h <;> exact h.elim
        | some fi =>
          rw [hf] at h
          have hfk := run_findKey (P := P) (w := w) hkt rk hm hf
          have hck := fun b => run_checkKey (P := P) (w := w) (b := b) hkt rk 9999
          have hgo := getObj_book (P := P) ho rfl
          cases fi with
          | some i =>
            have h' : ∃ p, es[i]? = some p ∧ dLookR ok o.dst p.2 true K s := by
              cases hz : zeroOf P e <;> rw [hz] at h <;> exact h
            obtain ⟨p, hp, hK⟩ := h'
            obtain ⟨m, hmi, r1, r2⟩ := hm.get hp
            have hmi' : ms[i]? = some m := by rw [← Array.getElem?_toList]; exact hmi
            simp only [Option.bind_some, hmi, Option.map_some] at hfk
            refine op_value hS hd (x := if ok then .tuple #[m.val, .bool true] else m.val) ?_ ?_ hK
            · cases ok <;> simp [execOp, he, rx, Instr.lookup, run_underlying hu, hgo, hck, hfk]
            · cases ok
              · exact r2
              · simp only [if_true, Rel, RelL]; exact ⟨_, rfl, _, _, rfl, r2, _, _, rfl, rfl, rfl⟩
          | none =>
            simp only [Option.bind_none] at hfk
            cases hz : zeroOf P e with
            | none => rw [hz] at h; exact h.elim
            | some z =>
              rw [hz] at h
              obtain ⟨ie, v, hie, hiz, rfl⟩ := zero_info hz
              refine op_value hS hd (x := if ok then .tuple #[v, .bool false] else v) ?_ ?_ h
              · cases ok <;> simp [execOp, he, rx, Instr.lookup, run_underlying hu, hgo, hck, hfk, zeroValue, typeInfo, hie, hiz]
              · cases ok
                · exact rel_ofVal w s.heap v
                · simp only [if_true, Rel, RelL]; exact ⟨_, rfl, _, _, rfl, rel_ofVal w s.heap v, _, _, rfl, rfl, rfl⟩
  · rename_i kt e
    obtain ⟨hkt, h⟩ := h
    simp only [Rel] at rx
    have hfk := run_findKey (P := P) (w := w) (es := []) (ms := []) hkt rk rfl (r := none) rfl
    have hck := fun b => run_checkKey (P := P) (w := w) (b := b) hkt rk 9999
    simp only [Option.bind_none] at hfk
    cases hz : zeroOf P e with
    | none => rw [hz] at h; exact h.elim
    | some z =>
      rw [hz] at h
      obtain ⟨ie, v, hie, hiz, rfl⟩ := zero_info hz
      refine op_value hS hd (x := if ok then .tuple #[v, .bool false] else v) ?_ ?_ h
      · cases ok <;> simp [execOp, he, rx, Instr.lookup, run_underlying hu, hck, hfk, zeroValue, typeInfo, hie, hiz]
      · cases ok
        · exact rel_ofVal w s.heap v
        · simp only [if_true, Rel, RelL]; exact ⟨_, rfl, _, _, rfl, rel_ofVal w s.heap v, _, _, rfl, rfl, rfl⟩

theorem s_delete (hS : Sim G N s a w) (hd : dstOk N o.dst = true) {c : Call} {x k : Operand} {t : TypeId} {ts : List TypeId} (hx : opdOk N x = true) (hk : opdOk N k = true) (he : o.op = .call c) (hc : c.callee = .builtin .delete) (hargs : c.args.toList = [x, k]) (hts : c.argTypes.toList = t :: ts)
    (h : dMapDel P o.dst (P.underlying t) (dev G s.env x) (dev G s.env k) K s) : o.wp P a w (NextS G N K s w) Qx := by
  have rx := rel_dev hS hx
  have rk := rel_dev hS hk
  have hm' : c.args.map a.eval = #[a.eval x, a.eval k] := by apply Array.ext'; simp [hargs]
  have hex := exec_builtin (a := a) he hc
  rw [hm'] at hex
  have ht' : c.argTypes[0]? = some t := by rw [← Array.getElem?_toList, hts]; rfl
  generalize hu : P.underlying t = u at h
  generalize dev G s.env x = dx at h rx
  generalize dev G s.env k = dk at h rk
  unfold dMapDel at h
  split at h <;> try exact h.elim
  rename_i kt e r
  obtain ⟨hkt, h⟩ := h
  simp only [Rel] at rx
  cases hh : s.heap r with
  | none => rw [hh] at h; exact h.elim
  | some ob =>
    cases ob with
    | loop => rw [hh] at h; exact h.elim
    | cells => rw [hh] at h; exact h.elim
    | map es =>
      rw [hh] at h
      simp only [dMapDelO] at h
      obtain ⟨ms, clock, ho, hm⟩ := hS.heap r _ hh
      cases hf : dFind dk es 0 with
      | none => rw [hf] at h; exact h.elim
      | some fi =>
        rw [hf] at h
        simp only [dMapDelF] at h
        have hfk := run_findKey (P := P) (w := w) hkt rk hm hf
        have hck := fun b => run_checkKey (P := P) (w := w) (b := b) hkt rk 9999
        have hgo := getObj_book (P := P) ho rfl
        have hnn : s.heap r ≠ none := by rw [hh]; simp
        cases fi with
        | none =>
          simp only [Option.bind_none] at hfk
          obtain ⟨k1, k2⟩ := own_book (o' := .map ms clock) (ob := .map es) hS.heap hnn ho rfl rfl (fun w' H' hl => ⟨ms, clock, rfl, hm.lasts hl⟩)
          have hso := setObj_book (P := P) (.map ms clock) ho rfl
          refine op_world hS hd (x := .tuple #[]) ?_ k2 k1 (by simp [Rel, RelL]) h
          rw [hex]
          simp [builtin, Builtin.delete_, ht', run_underlying hu, rx, hgo, hck, hfk, hso]
        | some i =>
          cases hmi : ms.toList[i]? with
          | none =>
            have hle : ms.toList.length ≤ i := by rwa [List.getElem?_eq_none_iff] at hmi
            have he1 : es.eraseIdx i = es := List.eraseIdx_of_length_le (by rw [hm.len]; exact hle)
            simp only [Option.bind_some, hmi, Option.map_none] at hfk
            simp only [dMapDelS, he1] at h
            obtain ⟨k1, k2⟩ := own_book (o' := .map ms clock) (ob := .map es) hS.heap hnn ho rfl rfl (fun w' H' hl => ⟨ms, clock, rfl, hm.lasts hl⟩)
            have hso := setObj_book (P := P) (.map ms clock) ho rfl
            refine op_world hS hd (x := .tuple #[]) ?_ k2 k1 (by simp [Rel, RelL]) h
            rw [hex]
            simp [builtin, Builtin.delete_, ht', run_underlying hu, rx, hgo, hck, hfk, hso]
          | some m =>
            simp only [Option.bind_some, hmi, Option.map_some] at hfk
            obtain ⟨k1, k2⟩ := own_book (o' := .map (ms.eraseIdxIfInBounds i) clock) (ob := .map (es.eraseIdx i)) hS.heap hnn ho rfl rfl (fun w' H' hl => ⟨_, clock, rfl, by
              rw [Array.toList_eraseIdxIfInBounds]; exact (hm.lasts hl).erase i⟩)
            have hso := setObj_book (P := P) (.map (ms.eraseIdxIfInBounds i) clock) ho rfl
            refine op_world hS hd (x := .tuple #[]) ?_ k2 k1 (by simp [Rel, RelL]) h
            rw [hex]
            simp [builtin, Builtin.delete_, ht', run_underlying hu, rx, hgo, hck, hfk, hso]


theorem RelM.modify {w : World} {H : DHeap} {f : MapEntry → MapEntry} : ∀ {es : List (DVal × DVal)} {ms : List MapEntry}, RelM w H es ms → ∀ (i : Nat) {p : DVal × DVal}, (∀ m, Rel w H p.1 (f m).key ∧ Rel w H p.2 (f m).val) → RelM w H (es.set i p) (ms.modify i f)
  | [], _, h, i, p, _ => by rw [show _ = _ from h]; cases i <;> exact rfl
  | q :: es, ms, h, 0, p, k => by
    obtain ⟨m', ms', rfl, h1, h2, h3⟩ := h
    exact ⟨f m', ms', rfl, (k m').1, (k m').2, h3⟩
  | q :: es, ms, h, i + 1, p, k => by
    obtain ⟨m', ms', rfl, h1, h2, h3⟩ := h
    exact ⟨m', _, rfl, h1, h2, RelM.modify h3 i k⟩

theorem dFind_some {k : DVal} : ∀ {es : List (DVal × DVal)} {n i : Nat}, dFind k es n = some (some i) → ∃ p, n ≤ i ∧ es[i - n]? = some p ∧ dKey k p.1 = some true
  | [], n, i, h => by simp [dFind] at h
  | q :: es, n, i, h => by
    simp only [dFind] at h
    cases hb : dKey k q.1 with
    | none => rw [hb] at h; cases h
    | some b =>
      rw [hb] at h
      cases b with
      | true => simp only [dFindS] at h; cases h; exact ⟨q, Nat.le_refl _, by simp, hb⟩
      | false =>
        simp only [dFindS] at h
        obtain ⟨p, h1, h2, h3⟩ := dFind_some h
        refine ⟨p, by omega, ?_, h3⟩
        rw [show i - n = (i - (n + 1)) + 1 by omega]; simpa using h2

theorem same_bits {w : World} {H : DHeap} {k k' : DVal} {x x' : Value} (h : Rel w H k x) (h' : Rel w H k' x') (hb : dKey k k' = some true) (n : Nat) : Instr.sameBits n x' x = true := by
  cases k <;> (try (simp [dKey] at hb; done)) <;> cases k' <;> simp only [dKey] at hb <;> (try (cases hb; done))
  · simp only [Rel] at h h'
    subst h; subst h'
    simp at hb; subst hb
    cases n <;> simp [Instr.sameBits]
  · split at hb <;> simp at hb
    rename_i e; subst e; subst hb
    simp only [Rel] at h h'
    subst h; subst h'
    cases n <;> simp [Instr.sameBits]
  · simp only [Rel] at h h'
    subst h; subst h'
    simp at hb; subst hb
    have e1 : ∀ l : List UInt8, ((⟨⟨l⟩⟩ : ByteArray) == ⟨⟨l⟩⟩) = true := fun l => by
      show ((⟨l⟩ : Array UInt8) == ⟨l⟩) = true
      simp
    cases n <;> simp [Instr.sameBits, e1]

theorem s_mapUpd (hS : Sim G N s a w) {t : TypeId} {x k y : Operand} (hx : opdOk N x = true) (hk : opdOk N k = true) (hy : opdOk N y = true) (he : o.op = .mapUpdate t x k y)
    (h : dMapUpd P o.dst (P.underlying t) (dev G s.env x) (dev G s.env k) (dev G s.env y) K s) : o.wp P a w (NextS G N K s w) Qx := by
  have rx := rel_dev hS hx
  have rk := rel_dev hS hk
  have ry := rel_dev hS hy
  generalize hu : P.underlying t = u at h
  generalize dev G s.env x = dx at h rx
  generalize dev G s.env k = dk at h rk
  generalize dev G s.env y = dy at h ry
  unfold dMapUpd at h
  split at h <;> try exact h.elim
  rename_i kt e r
  obtain ⟨hdst, hkt, h⟩ := h
  simp only [Rel] at rx
  cases hh : s.heap r with
  | none => rw [hh] at h; exact h.elim
  | some ob =>
    cases ob with
    | loop => rw [hh] at h; exact h.elim
    | cells => rw [hh] at h; exact h.elim
    | map es =>
      rw [hh] at h
      obtain ⟨hone, h⟩ := h
      obtain ⟨ms, clock, ho, hm⟩ := hS.heap r _ hh
      cases hf : dFind dk es 0 with
      | none => rw [hf] at h; exact h.elim
      | some fi =>
        rw [hf] at h
        simp only [dMapUpdF] at h
        have hfk := run_findKey (P := P) (w := w) hkt rk hm hf
        have hck := fun b => run_checkKey (P := P) (w := w) (b := b) hkt rk 9999
        have hgo := getObj_book (P := P) ho rfl
        have hnn : s.heap r ≠ none := by rw [hh]; simp
        have fin : ∀ {o' : Obj} {es' : List (DVal × DVal)}, isBook o' = true → (∀ w' H', Lasts s.heap w H' w' → RelObj w' H' (.map es') (some o')) → (execOp a.eval o).run P w = .ok .skip (w.putObj r o') → K ⟨s.env, upd s.heap r (some (.map es'))⟩ → o.wp P a w (NextS G N K s w) Qx := by
          intro o' es' hb' hob hrun hK
          obtain ⟨k1, k2⟩ := own_book hS.heap hnn ho rfl hb' hob
          unfold Oper.wp
          rw [hrun]
          show NextS G N K s w (a.put o.dst undef) _
          rw [hdst]
          exact ⟨_, hK, hS.ext k2 k1, k2⟩
        cases fi with
        | none =>
          simp only [Option.bind_none] at hfk
          have hso := setObj_book (P := P) (.map (ms.push { key := a.eval k, val := a.eval y, born := clock }) (clock + 1)) ho rfl
          refine fin (o' := .map (ms.push { key := a.eval k, val := a.eval y, born := clock }) (clock + 1)) rfl (fun w' H' hl => ⟨_, _, rfl, ?_⟩) ?_ h
          · rw [Array.toList_push]
            exact (hm.lasts hl).app (fs := [(dk, dy)]) ⟨_, [], rfl, Rel.lasts hl _ _ rk, Rel.lasts hl _ _ ry, rfl⟩
          · simp [execOp, he, rx, Instr.mapUpdate, run_underlying hu, hgo, hck, hfk, hso]
        | some i =>
          obtain ⟨p, _, hp, hkey⟩ := dFind_some hf
          rw [Nat.sub_zero] at hp
          obtain ⟨m, hmi, r1, r2⟩ := hm.get hp
          have hmi' : ms[i]? = some m := by rw [← Array.getElem?_toList]; exact hmi
          simp only [Option.bind_some, hmi, Option.map_some] at hfk
          have hsb := same_bits rk r1 hkey 10000
          have hso := setObj_book (P := P) (.map (ms.modify i fun e => { e with key := a.eval k, val := a.eval y }) clock) ho rfl
          refine fin (o' := .map (ms.modify i fun e => { e with key := a.eval k, val := a.eval y }) clock) rfl (fun w' H' hl => ⟨_, _, rfl, ?_⟩) ?_ h
          · rw [Array.toList_modify]
            exact (hm.lasts hl).modify i (fun m => ⟨Rel.lasts hl _ _ rk, Rel.lasts hl _ _ ry⟩)
          · simp [execOp, he, rx, Instr.mapUpdate, run_underlying hu, hgo, hck, hfk, hmi', Instr.keyThatStays, hsb, hso]

end
end Go.Dl
