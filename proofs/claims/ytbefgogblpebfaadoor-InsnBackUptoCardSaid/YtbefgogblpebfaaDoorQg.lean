/- The data level and the contracts of the functions that are reached (part 7). -/
import Derived.Test.YtbefgogblpebfaaDoorQf
set_option linter.unusedSimpArgs false
set_option linter.unusedVariables false
-- Chapter 22: the reference's table.
namespace Go.Dl
open Go Go.Proofs
set_option maxRecDepth 10000

def dFld (f : Int × Int × Int) : List DVal := [.int .u8 f.1, dI f.2.1, dI f.2.2]
def dRRow (p : Int × List UInt8 × List (Int × Int × Int)) : List DVal := [.int .u8 p.1, .str p.2.1, .vslice (p.2.2.flatMap dFld) p.2.2.length]
def rrT : List (Int × List UInt8 × List (Int × Int × Int)) := (List.range 57).map fun (i : Nat) => ((i : Int) + 1, opT.getD i [], fieldT.getD i [])
theorem dFld_length (f : Int × Int × Int) : (dFld f).length = 3 := rfl
theorem dRRow_length (p : Int × List UInt8 × List (Int × Int × Int)) : (dRRow p).length = 3 := rfl
theorem rrT_length : rrT.length = 57 := rfl
theorem z1 : repl 1 [DVal.int IntKind.u8 0, DVal.int IntKind.i64 0, DVal.int IntKind.i64 0] = (List.replicate 1 [DVal.int IntKind.u8 0, DVal.int IntKind.i64 0, DVal.int IntKind.i64 0]).flatten := rfl

theorem zz1 : repl 1 [DVal.int IntKind.u8 0, DVal.int IntKind.i64 0, DVal.int IntKind.i64 0] = [DVal.int IntKind.u8 0, DVal.int IntKind.i64 0, DVal.int IntKind.i64 0] := rfl
theorem zz2 : repl 2 [DVal.int IntKind.u8 0, DVal.int IntKind.i64 0, DVal.int IntKind.i64 0] = [DVal.int IntKind.u8 0, DVal.int IntKind.i64 0, DVal.int IntKind.i64 0, DVal.int IntKind.u8 0, DVal.int IntKind.i64 0, DVal.int IntKind.i64 0] := rfl
theorem zz3 : repl 3 [DVal.int IntKind.u8 0, DVal.int IntKind.i64 0, DVal.int IntKind.i64 0] = [DVal.int IntKind.u8 0, DVal.int IntKind.i64 0, DVal.int IntKind.i64 0, DVal.int IntKind.u8 0, DVal.int IntKind.i64 0, DVal.int IntKind.i64 0, DVal.int IntKind.u8 0, DVal.int IntKind.i64 0, DVal.int IntKind.i64 0] := rfl
theorem zz4 : repl 4 [DVal.int IntKind.u8 0, DVal.int IntKind.i64 0, DVal.int IntKind.i64 0] = [DVal.int IntKind.u8 0, DVal.int IntKind.i64 0, DVal.int IntKind.i64 0, DVal.int IntKind.u8 0, DVal.int IntKind.i64 0, DVal.int IntKind.i64 0, DVal.int IntKind.u8 0, DVal.int IntKind.i64 0, DVal.int IntKind.i64 0, DVal.int IntKind.u8 0, DVal.int IntKind.i64 0, DVal.int IntKind.i64 0] := rfl
theorem zz5 : repl 5 [DVal.int IntKind.u8 0, DVal.int IntKind.i64 0, DVal.int IntKind.i64 0] = [DVal.int IntKind.u8 0, DVal.int IntKind.i64 0, DVal.int IntKind.i64 0, DVal.int IntKind.u8 0, DVal.int IntKind.i64 0, DVal.int IntKind.i64 0, DVal.int IntKind.u8 0, DVal.int IntKind.i64 0, DVal.int IntKind.i64 0, DVal.int IntKind.u8 0, DVal.int IntKind.i64 0, DVal.int IntKind.i64 0, DVal.int IntKind.u8 0, DVal.int IntKind.i64 0, DVal.int IntKind.i64 0] := rfl
def numb : Nat → List DVal → List (Nat × DVal)
  | _, [] => []
  | k, v :: vs => (k, v) :: numb (k + 1) vs
theorem dfill_seq (size : Nat) : ∀ (vs pre rest : List DVal) (k : Nat), pre.length = k * size → (∀ v ∈ vs, v.cells.length = size) → rest.length = vs.length * size →
    dfill (placeA size) (pre ++ rest) (numb k vs) = some (pre ++ vs.flatMap DVal.cells)
  | [], pre, rest, k, hp, hv, hr => by
    have : rest = [] := List.length_eq_zero_iff.1 (by simpa using hr)
    subst this; rfl
  | v :: vs, pre, rest, k, hp, hv, hr => by
    have h1 := hv v (by simp)
    rw [List.length_cons, Nat.succ_mul] at hr
    have e : (pre ++ rest).take (k * size) ++ v.cells ++ (pre ++ rest).drop (k * size + v.cells.length) = (pre ++ v.cells) ++ rest.drop size := by
      rw [← hp, List.take_left, h1, ← List.drop_drop, List.drop_left]
    simp only [numb, dfill, placeA]
    rw [if_pos ⟨h1, by rw [List.length_append, hp, h1]; omega⟩, e, dfill_seq size vs (pre ++ v.cells) (rest.drop size) (k + 1) (by rw [List.length_append, hp, h1, Nat.succ_mul]) (fun u hu => hv u (by simp [hu])) (by rw [List.length_drop]; omega)]
    simp
theorem dfillS (P : Program) (fs : Array Field) (cells : List DVal) (i : Nat) (v : DVal) (rest : List (Nat × DVal)) : dfill (placeS P fs) cells ((i, v) :: rest) =
    (match placeS P fs i with
    | none => none
    | some (off, size) => if v.cells.length = size ∧ off + v.cells.length ≤ cells.length then dfill (placeS P fs) (cells.take off ++ v.cells ++ cells.drop (off + v.cells.length)) rest else none) := rfl

set_option maxHeartbeats 8000000 in
theorem rrows_spec (G : Nat → DVal) (H : DHeap) : DCalls Tryd.prog G 70 [] H (DRet (.vslice (rrT.flatMap dRRow) 57) H) := by
  have t0 := Tab.nil H 121
  refine dcalls_intro Tryd.func70 Tryd.call70 rfl (by kernel_rfl) ?_
  simp (disch := omega) only [go_sem, Nat.reduceEqDiff, Nat.reduceAdd, Nat.reduceMul, Nat.reduceSub, Nat.reduceLeDiff, ↓reduceIte, reduceCtorEq, Int.reduceAdd, Int.reduceSub, Int.reduceMul, Int.reduceNeg, Int.reduceToNat, List.reduceReplicate, String.reduceEq]
  intro r1 h1; dsimp only at h1
  have t1 := t0.new h1 [DVal.int IntKind.u8 68, DVal.int IntKind.i64 0, DVal.int IntKind.i64 15, DVal.int IntKind.u8 78, DVal.int IntKind.i64 (-9223372036854775808), DVal.int IntKind.i64 9223372036854775807]
  simp (disch := omega) only [go_sem, Nat.reduceEqDiff, Nat.reduceAdd, Nat.reduceMul, Nat.reduceSub, Nat.reduceLeDiff, ↓reduceIte, reduceCtorEq, Int.reduceAdd, Int.reduceSub, Int.reduceMul, Int.reduceNeg, Int.reduceToNat, List.reduceReplicate, String.reduceEq, zz1, zz2, zz3, zz4, zz5, List.drop_succ_cons, List.drop_zero]
  generalize upd H r1 (some (DObj.cells [DVal.int IntKind.u8 68, DVal.int IntKind.i64 0, DVal.int IntKind.i64 15, DVal.int IntKind.u8 78, DVal.int IntKind.i64 (-9223372036854775808), DVal.int IntKind.i64 9223372036854775807] 121)) = H1 at t1 ⊢
  clear t0
  intro r2 h2; dsimp only at h2
  have t2 := t1.new h2 [DVal.int IntKind.u8 68, DVal.int IntKind.i64 0, DVal.int IntKind.i64 15, DVal.int IntKind.u8 65, DVal.int IntKind.i64 0, DVal.int IntKind.i64 15]
  simp (disch := omega) only [go_sem, Nat.reduceEqDiff, Nat.reduceAdd, Nat.reduceMul, Nat.reduceSub, Nat.reduceLeDiff, ↓reduceIte, reduceCtorEq, Int.reduceAdd, Int.reduceSub, Int.reduceMul, Int.reduceNeg, Int.reduceToNat, List.reduceReplicate, String.reduceEq, zz1, zz2, zz3, zz4, zz5, List.drop_succ_cons, List.drop_zero]
  generalize upd H1 r2 (some (DObj.cells [DVal.int IntKind.u8 68, DVal.int IntKind.i64 0, DVal.int IntKind.i64 15, DVal.int IntKind.u8 65, DVal.int IntKind.i64 0, DVal.int IntKind.i64 15] 121)) = H2 at t2 ⊢
  clear t1
  intro r3 h3; dsimp only at h3
  have t3 := t2.new h3 [DVal.int IntKind.u8 68, DVal.int IntKind.i64 0, DVal.int IntKind.i64 15, DVal.int IntKind.u8 78, DVal.int IntKind.i64 0, DVal.int IntKind.i64 4095, DVal.int IntKind.u8 77, DVal.int IntKind.i64 0, DVal.int IntKind.i64 65535]
  simp (disch := omega) only [go_sem, Nat.reduceEqDiff, Nat.reduceAdd, Nat.reduceMul, Nat.reduceSub, Nat.reduceLeDiff, ↓reduceIte, reduceCtorEq, Int.reduceAdd, Int.reduceSub, Int.reduceMul, Int.reduceNeg, Int.reduceToNat, List.reduceReplicate, String.reduceEq, zz1, zz2, zz3, zz4, zz5, List.drop_succ_cons, List.drop_zero]
  generalize upd H2 r3 (some (DObj.cells [DVal.int IntKind.u8 68, DVal.int IntKind.i64 0, DVal.int IntKind.i64 15, DVal.int IntKind.u8 78, DVal.int IntKind.i64 0, DVal.int IntKind.i64 4095, DVal.int IntKind.u8 77, DVal.int IntKind.i64 0, DVal.int IntKind.i64 65535] 121)) = H3 at t3 ⊢
  clear t2
  intro r4 h4; dsimp only at h4
  have t4 := t3.new h4 [DVal.int IntKind.u8 65, DVal.int IntKind.i64 0, DVal.int IntKind.i64 15, DVal.int IntKind.u8 78, DVal.int IntKind.i64 0, DVal.int IntKind.i64 4095, DVal.int IntKind.u8 77, DVal.int IntKind.i64 0, DVal.int IntKind.i64 65535]
  simp (disch := omega) only [go_sem, Nat.reduceEqDiff, Nat.reduceAdd, Nat.reduceMul, Nat.reduceSub, Nat.reduceLeDiff, ↓reduceIte, reduceCtorEq, Int.reduceAdd, Int.reduceSub, Int.reduceMul, Int.reduceNeg, Int.reduceToNat, List.reduceReplicate, String.reduceEq, zz1, zz2, zz3, zz4, zz5, List.drop_succ_cons, List.drop_zero]
  generalize upd H3 r4 (some (DObj.cells [DVal.int IntKind.u8 65, DVal.int IntKind.i64 0, DVal.int IntKind.i64 15, DVal.int IntKind.u8 78, DVal.int IntKind.i64 0, DVal.int IntKind.i64 4095, DVal.int IntKind.u8 77, DVal.int IntKind.i64 0, DVal.int IntKind.i64 65535] 121)) = H4 at t4 ⊢
  clear t3
  intro r5 h5; dsimp only at h5
  have t5 := t4.new h5 [DVal.int IntKind.u8 68, DVal.int IntKind.i64 0, DVal.int IntKind.i64 15, DVal.int IntKind.u8 65, DVal.int IntKind.i64 0, DVal.int IntKind.i64 15, DVal.int IntKind.u8 66, DVal.int IntKind.i64 1, DVal.int IntKind.i64 65536, DVal.int IntKind.u8 78, DVal.int IntKind.i64 0, DVal.int IntKind.i64 4095, DVal.int IntKind.u8 77, DVal.int IntKind.i64 0, DVal.int IntKind.i64 65535]
  simp (disch := omega) only [go_sem, Nat.reduceEqDiff, Nat.reduceAdd, Nat.reduceMul, Nat.reduceSub, Nat.reduceLeDiff, ↓reduceIte, reduceCtorEq, Int.reduceAdd, Int.reduceSub, Int.reduceMul, Int.reduceNeg, Int.reduceToNat, List.reduceReplicate, String.reduceEq, zz1, zz2, zz3, zz4, zz5, List.drop_succ_cons, List.drop_zero]
  generalize upd H4 r5 (some (DObj.cells [DVal.int IntKind.u8 68, DVal.int IntKind.i64 0, DVal.int IntKind.i64 15, DVal.int IntKind.u8 65, DVal.int IntKind.i64 0, DVal.int IntKind.i64 15, DVal.int IntKind.u8 66, DVal.int IntKind.i64 1, DVal.int IntKind.i64 65536, DVal.int IntKind.u8 78, DVal.int IntKind.i64 0, DVal.int IntKind.i64 4095, DVal.int IntKind.u8 77, DVal.int IntKind.i64 0, DVal.int IntKind.i64 65535] 121)) = H5 at t5 ⊢
  clear t4
  intro r6 h6; dsimp only at h6
  have t6 := t5.new h6 [DVal.int IntKind.u8 68, DVal.int IntKind.i64 0, DVal.int IntKind.i64 15, DVal.int IntKind.u8 65, DVal.int IntKind.i64 0, DVal.int IntKind.i64 15, DVal.int IntKind.u8 66, DVal.int IntKind.i64 1, DVal.int IntKind.i64 65536, DVal.int IntKind.u8 78, DVal.int IntKind.i64 0, DVal.int IntKind.i64 4095, DVal.int IntKind.u8 77, DVal.int IntKind.i64 0, DVal.int IntKind.i64 65535]
  simp (disch := omega) only [go_sem, Nat.reduceEqDiff, Nat.reduceAdd, Nat.reduceMul, Nat.reduceSub, Nat.reduceLeDiff, ↓reduceIte, reduceCtorEq, Int.reduceAdd, Int.reduceSub, Int.reduceMul, Int.reduceNeg, Int.reduceToNat, List.reduceReplicate, String.reduceEq, zz1, zz2, zz3, zz4, zz5, List.drop_succ_cons, List.drop_zero]
  generalize upd H5 r6 (some (DObj.cells [DVal.int IntKind.u8 68, DVal.int IntKind.i64 0, DVal.int IntKind.i64 15, DVal.int IntKind.u8 65, DVal.int IntKind.i64 0, DVal.int IntKind.i64 15, DVal.int IntKind.u8 66, DVal.int IntKind.i64 1, DVal.int IntKind.i64 65536, DVal.int IntKind.u8 78, DVal.int IntKind.i64 0, DVal.int IntKind.i64 4095, DVal.int IntKind.u8 77, DVal.int IntKind.i64 0, DVal.int IntKind.i64 65535] 121)) = H6 at t6 ⊢
  clear t5
  intro r7 h7; dsimp only at h7
  have t7 := t6.new h7 [DVal.int IntKind.u8 68, DVal.int IntKind.i64 0, DVal.int IntKind.i64 15, DVal.int IntKind.u8 65, DVal.int IntKind.i64 0, DVal.int IntKind.i64 15]
  simp (disch := omega) only [go_sem, Nat.reduceEqDiff, Nat.reduceAdd, Nat.reduceMul, Nat.reduceSub, Nat.reduceLeDiff, ↓reduceIte, reduceCtorEq, Int.reduceAdd, Int.reduceSub, Int.reduceMul, Int.reduceNeg, Int.reduceToNat, List.reduceReplicate, String.reduceEq, zz1, zz2, zz3, zz4, zz5, List.drop_succ_cons, List.drop_zero]
  generalize upd H6 r7 (some (DObj.cells [DVal.int IntKind.u8 68, DVal.int IntKind.i64 0, DVal.int IntKind.i64 15, DVal.int IntKind.u8 65, DVal.int IntKind.i64 0, DVal.int IntKind.i64 15] 121)) = H7 at t7 ⊢
  clear t6
  intro r8 h8; dsimp only at h8
  have t8 := t7.new h8 [DVal.int IntKind.u8 68, DVal.int IntKind.i64 0, DVal.int IntKind.i64 15, DVal.int IntKind.u8 65, DVal.int IntKind.i64 0, DVal.int IntKind.i64 15]
  simp (disch := omega) only [go_sem, Nat.reduceEqDiff, Nat.reduceAdd, Nat.reduceMul, Nat.reduceSub, Nat.reduceLeDiff, ↓reduceIte, reduceCtorEq, Int.reduceAdd, Int.reduceSub, Int.reduceMul, Int.reduceNeg, Int.reduceToNat, List.reduceReplicate, String.reduceEq, zz1, zz2, zz3, zz4, zz5, List.drop_succ_cons, List.drop_zero]
  generalize upd H7 r8 (some (DObj.cells [DVal.int IntKind.u8 68, DVal.int IntKind.i64 0, DVal.int IntKind.i64 15, DVal.int IntKind.u8 65, DVal.int IntKind.i64 0, DVal.int IntKind.i64 15] 121)) = H8 at t8 ⊢
  clear t7
  intro r9 h9; dsimp only at h9
  have t9 := t8.new h9 [DVal.int IntKind.u8 68, DVal.int IntKind.i64 0, DVal.int IntKind.i64 15, DVal.int IntKind.u8 65, DVal.int IntKind.i64 0, DVal.int IntKind.i64 15, DVal.int IntKind.u8 66, DVal.int IntKind.i64 0, DVal.int IntKind.i64 15]
  simp (disch := omega) only [go_sem, Nat.reduceEqDiff, Nat.reduceAdd, Nat.reduceMul, Nat.reduceSub, Nat.reduceLeDiff, ↓reduceIte, reduceCtorEq, Int.reduceAdd, Int.reduceSub, Int.reduceMul, Int.reduceNeg, Int.reduceToNat, List.reduceReplicate, String.reduceEq, zz1, zz2, zz3, zz4, zz5, List.drop_succ_cons, List.drop_zero]
  generalize upd H8 r9 (some (DObj.cells [DVal.int IntKind.u8 68, DVal.int IntKind.i64 0, DVal.int IntKind.i64 15, DVal.int IntKind.u8 65, DVal.int IntKind.i64 0, DVal.int IntKind.i64 15, DVal.int IntKind.u8 66, DVal.int IntKind.i64 0, DVal.int IntKind.i64 15] 121)) = H9 at t9 ⊢
  clear t8
  intro r10 h10; dsimp only at h10
  have t10 := t9.new h10 [DVal.int IntKind.u8 68, DVal.int IntKind.i64 0, DVal.int IntKind.i64 15, DVal.int IntKind.u8 65, DVal.int IntKind.i64 0, DVal.int IntKind.i64 15, DVal.int IntKind.u8 66, DVal.int IntKind.i64 0, DVal.int IntKind.i64 15]
  simp (disch := omega) only [go_sem, Nat.reduceEqDiff, Nat.reduceAdd, Nat.reduceMul, Nat.reduceSub, Nat.reduceLeDiff, ↓reduceIte, reduceCtorEq, Int.reduceAdd, Int.reduceSub, Int.reduceMul, Int.reduceNeg, Int.reduceToNat, List.reduceReplicate, String.reduceEq, zz1, zz2, zz3, zz4, zz5, List.drop_succ_cons, List.drop_zero]
  generalize upd H9 r10 (some (DObj.cells [DVal.int IntKind.u8 68, DVal.int IntKind.i64 0, DVal.int IntKind.i64 15, DVal.int IntKind.u8 65, DVal.int IntKind.i64 0, DVal.int IntKind.i64 15, DVal.int IntKind.u8 66, DVal.int IntKind.i64 0, DVal.int IntKind.i64 15] 121)) = H10 at t10 ⊢
  clear t9
  intro r11 h11; dsimp only at h11
  have t11 := t10.new h11 [DVal.int IntKind.u8 68, DVal.int IntKind.i64 0, DVal.int IntKind.i64 15, DVal.int IntKind.u8 65, DVal.int IntKind.i64 0, DVal.int IntKind.i64 15, DVal.int IntKind.u8 66, DVal.int IntKind.i64 0, DVal.int IntKind.i64 15]
  simp (disch := omega) only [go_sem, Nat.reduceEqDiff, Nat.reduceAdd, Nat.reduceMul, Nat.reduceSub, Nat.reduceLeDiff, ↓reduceIte, reduceCtorEq, Int.reduceAdd, Int.reduceSub, Int.reduceMul, Int.reduceNeg, Int.reduceToNat, List.reduceReplicate, String.reduceEq, zz1, zz2, zz3, zz4, zz5, List.drop_succ_cons, List.drop_zero]
  generalize upd H10 r11 (some (DObj.cells [DVal.int IntKind.u8 68, DVal.int IntKind.i64 0, DVal.int IntKind.i64 15, DVal.int IntKind.u8 65, DVal.int IntKind.i64 0, DVal.int IntKind.i64 15, DVal.int IntKind.u8 66, DVal.int IntKind.i64 0, DVal.int IntKind.i64 15] 121)) = H11 at t11 ⊢
  clear t10
  intro r12 h12; dsimp only at h12
  have t12 := t11.new h12 [DVal.int IntKind.u8 68, DVal.int IntKind.i64 0, DVal.int IntKind.i64 15, DVal.int IntKind.u8 65, DVal.int IntKind.i64 0, DVal.int IntKind.i64 15, DVal.int IntKind.u8 66, DVal.int IntKind.i64 0, DVal.int IntKind.i64 15]
  simp (disch := omega) only [go_sem, Nat.reduceEqDiff, Nat.reduceAdd, Nat.reduceMul, Nat.reduceSub, Nat.reduceLeDiff, ↓reduceIte, reduceCtorEq, Int.reduceAdd, Int.reduceSub, Int.reduceMul, Int.reduceNeg, Int.reduceToNat, List.reduceReplicate, String.reduceEq, zz1, zz2, zz3, zz4, zz5, List.drop_succ_cons, List.drop_zero]
  generalize upd H11 r12 (some (DObj.cells [DVal.int IntKind.u8 68, DVal.int IntKind.i64 0, DVal.int IntKind.i64 15, DVal.int IntKind.u8 65, DVal.int IntKind.i64 0, DVal.int IntKind.i64 15, DVal.int IntKind.u8 66, DVal.int IntKind.i64 0, DVal.int IntKind.i64 15] 121)) = H12 at t12 ⊢
  clear t11
  intro r13 h13; dsimp only at h13
  have t13 := t12.new h13 [DVal.int IntKind.u8 68, DVal.int IntKind.i64 0, DVal.int IntKind.i64 15, DVal.int IntKind.u8 65, DVal.int IntKind.i64 0, DVal.int IntKind.i64 15, DVal.int IntKind.u8 66, DVal.int IntKind.i64 0, DVal.int IntKind.i64 15]
  simp (disch := omega) only [go_sem, Nat.reduceEqDiff, Nat.reduceAdd, Nat.reduceMul, Nat.reduceSub, Nat.reduceLeDiff, ↓reduceIte, reduceCtorEq, Int.reduceAdd, Int.reduceSub, Int.reduceMul, Int.reduceNeg, Int.reduceToNat, List.reduceReplicate, String.reduceEq, zz1, zz2, zz3, zz4, zz5, List.drop_succ_cons, List.drop_zero]
  generalize upd H12 r13 (some (DObj.cells [DVal.int IntKind.u8 68, DVal.int IntKind.i64 0, DVal.int IntKind.i64 15, DVal.int IntKind.u8 65, DVal.int IntKind.i64 0, DVal.int IntKind.i64 15, DVal.int IntKind.u8 66, DVal.int IntKind.i64 0, DVal.int IntKind.i64 15] 121)) = H13 at t13 ⊢
  clear t12
  intro r14 h14; dsimp only at h14
  have t14 := t13.new h14 [DVal.int IntKind.u8 68, DVal.int IntKind.i64 0, DVal.int IntKind.i64 15, DVal.int IntKind.u8 65, DVal.int IntKind.i64 0, DVal.int IntKind.i64 15, DVal.int IntKind.u8 66, DVal.int IntKind.i64 0, DVal.int IntKind.i64 15]
  simp (disch := omega) only [go_sem, Nat.reduceEqDiff, Nat.reduceAdd, Nat.reduceMul, Nat.reduceSub, Nat.reduceLeDiff, ↓reduceIte, reduceCtorEq, Int.reduceAdd, Int.reduceSub, Int.reduceMul, Int.reduceNeg, Int.reduceToNat, List.reduceReplicate, String.reduceEq, zz1, zz2, zz3, zz4, zz5, List.drop_succ_cons, List.drop_zero]
  generalize upd H13 r14 (some (DObj.cells [DVal.int IntKind.u8 68, DVal.int IntKind.i64 0, DVal.int IntKind.i64 15, DVal.int IntKind.u8 65, DVal.int IntKind.i64 0, DVal.int IntKind.i64 15, DVal.int IntKind.u8 66, DVal.int IntKind.i64 0, DVal.int IntKind.i64 15] 121)) = H14 at t14 ⊢
  clear t13
  intro r15 h15; dsimp only at h15
  have t15 := t14.new h15 [DVal.int IntKind.u8 68, DVal.int IntKind.i64 0, DVal.int IntKind.i64 15, DVal.int IntKind.u8 65, DVal.int IntKind.i64 0, DVal.int IntKind.i64 15, DVal.int IntKind.u8 66, DVal.int IntKind.i64 0, DVal.int IntKind.i64 15]
  simp (disch := omega) only [go_sem, Nat.reduceEqDiff, Nat.reduceAdd, Nat.reduceMul, Nat.reduceSub, Nat.reduceLeDiff, ↓reduceIte, reduceCtorEq, Int.reduceAdd, Int.reduceSub, Int.reduceMul, Int.reduceNeg, Int.reduceToNat, List.reduceReplicate, String.reduceEq, zz1, zz2, zz3, zz4, zz5, List.drop_succ_cons, List.drop_zero]
  generalize upd H14 r15 (some (DObj.cells [DVal.int IntKind.u8 68, DVal.int IntKind.i64 0, DVal.int IntKind.i64 15, DVal.int IntKind.u8 65, DVal.int IntKind.i64 0, DVal.int IntKind.i64 15, DVal.int IntKind.u8 66, DVal.int IntKind.i64 0, DVal.int IntKind.i64 15] 121)) = H15 at t15 ⊢
  clear t14
  intro r16 h16; dsimp only at h16
  have t16 := t15.new h16 [DVal.int IntKind.u8 68, DVal.int IntKind.i64 0, DVal.int IntKind.i64 15, DVal.int IntKind.u8 65, DVal.int IntKind.i64 0, DVal.int IntKind.i64 15, DVal.int IntKind.u8 66, DVal.int IntKind.i64 0, DVal.int IntKind.i64 15]
  simp (disch := omega) only [go_sem, Nat.reduceEqDiff, Nat.reduceAdd, Nat.reduceMul, Nat.reduceSub, Nat.reduceLeDiff, ↓reduceIte, reduceCtorEq, Int.reduceAdd, Int.reduceSub, Int.reduceMul, Int.reduceNeg, Int.reduceToNat, List.reduceReplicate, String.reduceEq, zz1, zz2, zz3, zz4, zz5, List.drop_succ_cons, List.drop_zero]
  generalize upd H15 r16 (some (DObj.cells [DVal.int IntKind.u8 68, DVal.int IntKind.i64 0, DVal.int IntKind.i64 15, DVal.int IntKind.u8 65, DVal.int IntKind.i64 0, DVal.int IntKind.i64 15, DVal.int IntKind.u8 66, DVal.int IntKind.i64 0, DVal.int IntKind.i64 15] 121)) = H16 at t16 ⊢
  clear t15
  intro r17 h17; dsimp only at h17
  have t17 := t16.new h17 [DVal.int IntKind.u8 68, DVal.int IntKind.i64 0, DVal.int IntKind.i64 15, DVal.int IntKind.u8 65, DVal.int IntKind.i64 0, DVal.int IntKind.i64 15, DVal.int IntKind.u8 66, DVal.int IntKind.i64 0, DVal.int IntKind.i64 15]
  simp (disch := omega) only [go_sem, Nat.reduceEqDiff, Nat.reduceAdd, Nat.reduceMul, Nat.reduceSub, Nat.reduceLeDiff, ↓reduceIte, reduceCtorEq, Int.reduceAdd, Int.reduceSub, Int.reduceMul, Int.reduceNeg, Int.reduceToNat, List.reduceReplicate, String.reduceEq, zz1, zz2, zz3, zz4, zz5, List.drop_succ_cons, List.drop_zero]
  generalize upd H16 r17 (some (DObj.cells [DVal.int IntKind.u8 68, DVal.int IntKind.i64 0, DVal.int IntKind.i64 15, DVal.int IntKind.u8 65, DVal.int IntKind.i64 0, DVal.int IntKind.i64 15, DVal.int IntKind.u8 66, DVal.int IntKind.i64 0, DVal.int IntKind.i64 15] 121)) = H17 at t17 ⊢
  clear t16
  intro r18 h18; dsimp only at h18
  have t18 := t17.new h18 [DVal.int IntKind.u8 68, DVal.int IntKind.i64 0, DVal.int IntKind.i64 15, DVal.int IntKind.u8 65, DVal.int IntKind.i64 0, DVal.int IntKind.i64 15, DVal.int IntKind.u8 66, DVal.int IntKind.i64 0, DVal.int IntKind.i64 15]
  simp (disch := omega) only [go_sem, Nat.reduceEqDiff, Nat.reduceAdd, Nat.reduceMul, Nat.reduceSub, Nat.reduceLeDiff, ↓reduceIte, reduceCtorEq, Int.reduceAdd, Int.reduceSub, Int.reduceMul, Int.reduceNeg, Int.reduceToNat, List.reduceReplicate, String.reduceEq, zz1, zz2, zz3, zz4, zz5, List.drop_succ_cons, List.drop_zero]
  generalize upd H17 r18 (some (DObj.cells [DVal.int IntKind.u8 68, DVal.int IntKind.i64 0, DVal.int IntKind.i64 15, DVal.int IntKind.u8 65, DVal.int IntKind.i64 0, DVal.int IntKind.i64 15, DVal.int IntKind.u8 66, DVal.int IntKind.i64 0, DVal.int IntKind.i64 15] 121)) = H18 at t18 ⊢
  clear t17
  intro r19 h19; dsimp only at h19
  have t19 := t18.new h19 [DVal.int IntKind.u8 68, DVal.int IntKind.i64 0, DVal.int IntKind.i64 15, DVal.int IntKind.u8 65, DVal.int IntKind.i64 0, DVal.int IntKind.i64 15, DVal.int IntKind.u8 66, DVal.int IntKind.i64 0, DVal.int IntKind.i64 15]
  simp (disch := omega) only [go_sem, Nat.reduceEqDiff, Nat.reduceAdd, Nat.reduceMul, Nat.reduceSub, Nat.reduceLeDiff, ↓reduceIte, reduceCtorEq, Int.reduceAdd, Int.reduceSub, Int.reduceMul, Int.reduceNeg, Int.reduceToNat, List.reduceReplicate, String.reduceEq, zz1, zz2, zz3, zz4, zz5, List.drop_succ_cons, List.drop_zero]
  generalize upd H18 r19 (some (DObj.cells [DVal.int IntKind.u8 68, DVal.int IntKind.i64 0, DVal.int IntKind.i64 15, DVal.int IntKind.u8 65, DVal.int IntKind.i64 0, DVal.int IntKind.i64 15, DVal.int IntKind.u8 66, DVal.int IntKind.i64 0, DVal.int IntKind.i64 15] 121)) = H19 at t19 ⊢
  clear t18
  intro r20 h20; dsimp only at h20
  have t20 := t19.new h20 [DVal.int IntKind.u8 68, DVal.int IntKind.i64 0, DVal.int IntKind.i64 15, DVal.int IntKind.u8 65, DVal.int IntKind.i64 0, DVal.int IntKind.i64 15, DVal.int IntKind.u8 66, DVal.int IntKind.i64 0, DVal.int IntKind.i64 15]
  simp (disch := omega) only [go_sem, Nat.reduceEqDiff, Nat.reduceAdd, Nat.reduceMul, Nat.reduceSub, Nat.reduceLeDiff, ↓reduceIte, reduceCtorEq, Int.reduceAdd, Int.reduceSub, Int.reduceMul, Int.reduceNeg, Int.reduceToNat, List.reduceReplicate, String.reduceEq, zz1, zz2, zz3, zz4, zz5, List.drop_succ_cons, List.drop_zero]
  generalize upd H19 r20 (some (DObj.cells [DVal.int IntKind.u8 68, DVal.int IntKind.i64 0, DVal.int IntKind.i64 15, DVal.int IntKind.u8 65, DVal.int IntKind.i64 0, DVal.int IntKind.i64 15, DVal.int IntKind.u8 66, DVal.int IntKind.i64 0, DVal.int IntKind.i64 15] 121)) = H20 at t20 ⊢
  clear t19
  intro r21 h21; dsimp only at h21
  have t21 := t20.new h21 [DVal.int IntKind.u8 68, DVal.int IntKind.i64 0, DVal.int IntKind.i64 15, DVal.int IntKind.u8 65, DVal.int IntKind.i64 0, DVal.int IntKind.i64 15, DVal.int IntKind.u8 66, DVal.int IntKind.i64 0, DVal.int IntKind.i64 15]
  simp (disch := omega) only [go_sem, Nat.reduceEqDiff, Nat.reduceAdd, Nat.reduceMul, Nat.reduceSub, Nat.reduceLeDiff, ↓reduceIte, reduceCtorEq, Int.reduceAdd, Int.reduceSub, Int.reduceMul, Int.reduceNeg, Int.reduceToNat, List.reduceReplicate, String.reduceEq, zz1, zz2, zz3, zz4, zz5, List.drop_succ_cons, List.drop_zero]
  generalize upd H20 r21 (some (DObj.cells [DVal.int IntKind.u8 68, DVal.int IntKind.i64 0, DVal.int IntKind.i64 15, DVal.int IntKind.u8 65, DVal.int IntKind.i64 0, DVal.int IntKind.i64 15, DVal.int IntKind.u8 66, DVal.int IntKind.i64 0, DVal.int IntKind.i64 15] 121)) = H21 at t21 ⊢
  clear t20
  intro r22 h22; dsimp only at h22
  have t22 := t21.new h22 [DVal.int IntKind.u8 68, DVal.int IntKind.i64 0, DVal.int IntKind.i64 15, DVal.int IntKind.u8 65, DVal.int IntKind.i64 0, DVal.int IntKind.i64 15, DVal.int IntKind.u8 66, DVal.int IntKind.i64 0, DVal.int IntKind.i64 15]
  simp (disch := omega) only [go_sem, Nat.reduceEqDiff, Nat.reduceAdd, Nat.reduceMul, Nat.reduceSub, Nat.reduceLeDiff, ↓reduceIte, reduceCtorEq, Int.reduceAdd, Int.reduceSub, Int.reduceMul, Int.reduceNeg, Int.reduceToNat, List.reduceReplicate, String.reduceEq, zz1, zz2, zz3, zz4, zz5, List.drop_succ_cons, List.drop_zero]
  generalize upd H21 r22 (some (DObj.cells [DVal.int IntKind.u8 68, DVal.int IntKind.i64 0, DVal.int IntKind.i64 15, DVal.int IntKind.u8 65, DVal.int IntKind.i64 0, DVal.int IntKind.i64 15, DVal.int IntKind.u8 66, DVal.int IntKind.i64 0, DVal.int IntKind.i64 15] 121)) = H22 at t22 ⊢
  clear t21
  intro r23 h23; dsimp only at h23
  have t23 := t22.new h23 [DVal.int IntKind.u8 68, DVal.int IntKind.i64 0, DVal.int IntKind.i64 15, DVal.int IntKind.u8 65, DVal.int IntKind.i64 0, DVal.int IntKind.i64 15, DVal.int IntKind.u8 66, DVal.int IntKind.i64 0, DVal.int IntKind.i64 15]
  simp (disch := omega) only [go_sem, Nat.reduceEqDiff, Nat.reduceAdd, Nat.reduceMul, Nat.reduceSub, Nat.reduceLeDiff, ↓reduceIte, reduceCtorEq, Int.reduceAdd, Int.reduceSub, Int.reduceMul, Int.reduceNeg, Int.reduceToNat, List.reduceReplicate, String.reduceEq, zz1, zz2, zz3, zz4, zz5, List.drop_succ_cons, List.drop_zero]
  generalize upd H22 r23 (some (DObj.cells [DVal.int IntKind.u8 68, DVal.int IntKind.i64 0, DVal.int IntKind.i64 15, DVal.int IntKind.u8 65, DVal.int IntKind.i64 0, DVal.int IntKind.i64 15, DVal.int IntKind.u8 66, DVal.int IntKind.i64 0, DVal.int IntKind.i64 15] 121)) = H23 at t23 ⊢
  clear t22
  intro r24 h24; dsimp only at h24
  have t24 := t23.new h24 [DVal.int IntKind.u8 68, DVal.int IntKind.i64 0, DVal.int IntKind.i64 15, DVal.int IntKind.u8 65, DVal.int IntKind.i64 0, DVal.int IntKind.i64 15]
  simp (disch := omega) only [go_sem, Nat.reduceEqDiff, Nat.reduceAdd, Nat.reduceMul, Nat.reduceSub, Nat.reduceLeDiff, ↓reduceIte, reduceCtorEq, Int.reduceAdd, Int.reduceSub, Int.reduceMul, Int.reduceNeg, Int.reduceToNat, List.reduceReplicate, String.reduceEq, zz1, zz2, zz3, zz4, zz5, List.drop_succ_cons, List.drop_zero]
  generalize upd H23 r24 (some (DObj.cells [DVal.int IntKind.u8 68, DVal.int IntKind.i64 0, DVal.int IntKind.i64 15, DVal.int IntKind.u8 65, DVal.int IntKind.i64 0, DVal.int IntKind.i64 15] 121)) = H24 at t24 ⊢
  clear t23
  intro r25 h25; dsimp only at h25
  have t25 := t24.new h25 [DVal.int IntKind.u8 68, DVal.int IntKind.i64 0, DVal.int IntKind.i64 15, DVal.int IntKind.u8 65, DVal.int IntKind.i64 0, DVal.int IntKind.i64 15]
  simp (disch := omega) only [go_sem, Nat.reduceEqDiff, Nat.reduceAdd, Nat.reduceMul, Nat.reduceSub, Nat.reduceLeDiff, ↓reduceIte, reduceCtorEq, Int.reduceAdd, Int.reduceSub, Int.reduceMul, Int.reduceNeg, Int.reduceToNat, List.reduceReplicate, String.reduceEq, zz1, zz2, zz3, zz4, zz5, List.drop_succ_cons, List.drop_zero]
  generalize upd H24 r25 (some (DObj.cells [DVal.int IntKind.u8 68, DVal.int IntKind.i64 0, DVal.int IntKind.i64 15, DVal.int IntKind.u8 65, DVal.int IntKind.i64 0, DVal.int IntKind.i64 15] 121)) = H25 at t25 ⊢
  clear t24
  intro r26 h26; dsimp only at h26
  have t26 := t25.new h26 [DVal.int IntKind.u8 68, DVal.int IntKind.i64 0, DVal.int IntKind.i64 15, DVal.int IntKind.u8 65, DVal.int IntKind.i64 0, DVal.int IntKind.i64 15]
  simp (disch := omega) only [go_sem, Nat.reduceEqDiff, Nat.reduceAdd, Nat.reduceMul, Nat.reduceSub, Nat.reduceLeDiff, ↓reduceIte, reduceCtorEq, Int.reduceAdd, Int.reduceSub, Int.reduceMul, Int.reduceNeg, Int.reduceToNat, List.reduceReplicate, String.reduceEq, zz1, zz2, zz3, zz4, zz5, List.drop_succ_cons, List.drop_zero]
  generalize upd H25 r26 (some (DObj.cells [DVal.int IntKind.u8 68, DVal.int IntKind.i64 0, DVal.int IntKind.i64 15, DVal.int IntKind.u8 65, DVal.int IntKind.i64 0, DVal.int IntKind.i64 15] 121)) = H26 at t26 ⊢
  clear t25
  intro r27 h27; dsimp only at h27
  have t27 := t26.new h27 [DVal.int IntKind.u8 65, DVal.int IntKind.i64 0, DVal.int IntKind.i64 15, DVal.int IntKind.u8 78, DVal.int IntKind.i64 (-9223372036854775808), DVal.int IntKind.i64 9223372036854775807, DVal.int IntKind.u8 77, DVal.int IntKind.i64 (-9223372036854775808), DVal.int IntKind.i64 9223372036854775807]
  simp (disch := omega) only [go_sem, Nat.reduceEqDiff, Nat.reduceAdd, Nat.reduceMul, Nat.reduceSub, Nat.reduceLeDiff, ↓reduceIte, reduceCtorEq, Int.reduceAdd, Int.reduceSub, Int.reduceMul, Int.reduceNeg, Int.reduceToNat, List.reduceReplicate, String.reduceEq, zz1, zz2, zz3, zz4, zz5, List.drop_succ_cons, List.drop_zero]
  generalize upd H26 r27 (some (DObj.cells [DVal.int IntKind.u8 65, DVal.int IntKind.i64 0, DVal.int IntKind.i64 15, DVal.int IntKind.u8 78, DVal.int IntKind.i64 (-9223372036854775808), DVal.int IntKind.i64 9223372036854775807, DVal.int IntKind.u8 77, DVal.int IntKind.i64 (-9223372036854775808), DVal.int IntKind.i64 9223372036854775807] 121)) = H27 at t27 ⊢
  clear t26
  intro r28 h28; dsimp only at h28
  have t28 := t27.new h28 [DVal.int IntKind.u8 65, DVal.int IntKind.i64 0, DVal.int IntKind.i64 15]
  simp (disch := omega) only [go_sem, Nat.reduceEqDiff, Nat.reduceAdd, Nat.reduceMul, Nat.reduceSub, Nat.reduceLeDiff, ↓reduceIte, reduceCtorEq, Int.reduceAdd, Int.reduceSub, Int.reduceMul, Int.reduceNeg, Int.reduceToNat, List.reduceReplicate, String.reduceEq, zz1, zz2, zz3, zz4, zz5, List.drop_succ_cons, List.drop_zero]
  generalize upd H27 r28 (some (DObj.cells [DVal.int IntKind.u8 65, DVal.int IntKind.i64 0, DVal.int IntKind.i64 15] 121)) = H28 at t28 ⊢
  clear t27
  intro r29 h29; dsimp only at h29
  have t29 := t28.new h29 [DVal.int IntKind.u8 84, DVal.int IntKind.i64 0, DVal.int IntKind.i64 65535]
  simp (disch := omega) only [go_sem, Nat.reduceEqDiff, Nat.reduceAdd, Nat.reduceMul, Nat.reduceSub, Nat.reduceLeDiff, ↓reduceIte, reduceCtorEq, Int.reduceAdd, Int.reduceSub, Int.reduceMul, Int.reduceNeg, Int.reduceToNat, List.reduceReplicate, String.reduceEq, zz1, zz2, zz3, zz4, zz5, List.drop_succ_cons, List.drop_zero]
  generalize upd H28 r29 (some (DObj.cells [DVal.int IntKind.u8 84, DVal.int IntKind.i64 0, DVal.int IntKind.i64 65535] 121)) = H29 at t29 ⊢
  clear t28
  intro r30 h30; dsimp only at h30
  have t30 := t29.new h30 [DVal.int IntKind.u8 65, DVal.int IntKind.i64 0, DVal.int IntKind.i64 15, DVal.int IntKind.u8 84, DVal.int IntKind.i64 0, DVal.int IntKind.i64 65535]
  simp (disch := omega) only [go_sem, Nat.reduceEqDiff, Nat.reduceAdd, Nat.reduceMul, Nat.reduceSub, Nat.reduceLeDiff, ↓reduceIte, reduceCtorEq, Int.reduceAdd, Int.reduceSub, Int.reduceMul, Int.reduceNeg, Int.reduceToNat, List.reduceReplicate, String.reduceEq, zz1, zz2, zz3, zz4, zz5, List.drop_succ_cons, List.drop_zero]
  generalize upd H29 r30 (some (DObj.cells [DVal.int IntKind.u8 65, DVal.int IntKind.i64 0, DVal.int IntKind.i64 15, DVal.int IntKind.u8 84, DVal.int IntKind.i64 0, DVal.int IntKind.i64 65535] 121)) = H30 at t30 ⊢
  clear t29
  intro r31 h31; dsimp only at h31
  have t31 := t30.new h31 [DVal.int IntKind.u8 65, DVal.int IntKind.i64 0, DVal.int IntKind.i64 15, DVal.int IntKind.u8 84, DVal.int IntKind.i64 0, DVal.int IntKind.i64 65535]
  simp (disch := omega) only [go_sem, Nat.reduceEqDiff, Nat.reduceAdd, Nat.reduceMul, Nat.reduceSub, Nat.reduceLeDiff, ↓reduceIte, reduceCtorEq, Int.reduceAdd, Int.reduceSub, Int.reduceMul, Int.reduceNeg, Int.reduceToNat, List.reduceReplicate, String.reduceEq, zz1, zz2, zz3, zz4, zz5, List.drop_succ_cons, List.drop_zero]
  generalize upd H30 r31 (some (DObj.cells [DVal.int IntKind.u8 65, DVal.int IntKind.i64 0, DVal.int IntKind.i64 15, DVal.int IntKind.u8 84, DVal.int IntKind.i64 0, DVal.int IntKind.i64 65535] 121)) = H31 at t31 ⊢
  clear t30
  intro r32 h32; dsimp only at h32
  have t32 := t31.new h32 [DVal.int IntKind.u8 65, DVal.int IntKind.i64 0, DVal.int IntKind.i64 15, DVal.int IntKind.u8 78, DVal.int IntKind.i64 (-9223372036854775808), DVal.int IntKind.i64 9223372036854775807, DVal.int IntKind.u8 77, DVal.int IntKind.i64 1, DVal.int IntKind.i64 65536, DVal.int IntKind.u8 84, DVal.int IntKind.i64 0, DVal.int IntKind.i64 65535]
  simp (disch := omega) only [go_sem, Nat.reduceEqDiff, Nat.reduceAdd, Nat.reduceMul, Nat.reduceSub, Nat.reduceLeDiff, ↓reduceIte, reduceCtorEq, Int.reduceAdd, Int.reduceSub, Int.reduceMul, Int.reduceNeg, Int.reduceToNat, List.reduceReplicate, String.reduceEq, zz1, zz2, zz3, zz4, zz5, List.drop_succ_cons, List.drop_zero]
  generalize upd H31 r32 (some (DObj.cells [DVal.int IntKind.u8 65, DVal.int IntKind.i64 0, DVal.int IntKind.i64 15, DVal.int IntKind.u8 78, DVal.int IntKind.i64 (-9223372036854775808), DVal.int IntKind.i64 9223372036854775807, DVal.int IntKind.u8 77, DVal.int IntKind.i64 1, DVal.int IntKind.i64 65536, DVal.int IntKind.u8 84, DVal.int IntKind.i64 0, DVal.int IntKind.i64 65535] 121)) = H32 at t32 ⊢
  clear t31
  intro r33 h33; dsimp only at h33
  have t33 := t32.new h33 [DVal.int IntKind.u8 78, DVal.int IntKind.i64 1, DVal.int IntKind.i64 64]
  simp (disch := omega) only [go_sem, Nat.reduceEqDiff, Nat.reduceAdd, Nat.reduceMul, Nat.reduceSub, Nat.reduceLeDiff, ↓reduceIte, reduceCtorEq, Int.reduceAdd, Int.reduceSub, Int.reduceMul, Int.reduceNeg, Int.reduceToNat, List.reduceReplicate, String.reduceEq, zz1, zz2, zz3, zz4, zz5, List.drop_succ_cons, List.drop_zero]
  generalize upd H32 r33 (some (DObj.cells [DVal.int IntKind.u8 78, DVal.int IntKind.i64 1, DVal.int IntKind.i64 64] 121)) = H33 at t33 ⊢
  clear t32
  intro r34 h34; dsimp only at h34
  have t34 := t33.new h34 [DVal.int IntKind.u8 65, DVal.int IntKind.i64 0, DVal.int IntKind.i64 15]
  simp (disch := omega) only [go_sem, Nat.reduceEqDiff, Nat.reduceAdd, Nat.reduceMul, Nat.reduceSub, Nat.reduceLeDiff, ↓reduceIte, reduceCtorEq, Int.reduceAdd, Int.reduceSub, Int.reduceMul, Int.reduceNeg, Int.reduceToNat, List.reduceReplicate, String.reduceEq, zz1, zz2, zz3, zz4, zz5, List.drop_succ_cons, List.drop_zero]
  generalize upd H33 r34 (some (DObj.cells [DVal.int IntKind.u8 65, DVal.int IntKind.i64 0, DVal.int IntKind.i64 15] 121)) = H34 at t34 ⊢
  clear t33
  intro r35 h35; dsimp only at h35
  have t35 := t34.new h35 [DVal.int IntKind.u8 65, DVal.int IntKind.i64 0, DVal.int IntKind.i64 15]
  simp (disch := omega) only [go_sem, Nat.reduceEqDiff, Nat.reduceAdd, Nat.reduceMul, Nat.reduceSub, Nat.reduceLeDiff, ↓reduceIte, reduceCtorEq, Int.reduceAdd, Int.reduceSub, Int.reduceMul, Int.reduceNeg, Int.reduceToNat, List.reduceReplicate, String.reduceEq, zz1, zz2, zz3, zz4, zz5, List.drop_succ_cons, List.drop_zero]
  generalize upd H34 r35 (some (DObj.cells [DVal.int IntKind.u8 65, DVal.int IntKind.i64 0, DVal.int IntKind.i64 15] 121)) = H35 at t35 ⊢
  clear t34
  intro r36 h36; dsimp only at h36
  have t36 := t35.new h36 [DVal.int IntKind.u8 68, DVal.int IntKind.i64 0, DVal.int IntKind.i64 15]
  simp (disch := omega) only [go_sem, Nat.reduceEqDiff, Nat.reduceAdd, Nat.reduceMul, Nat.reduceSub, Nat.reduceLeDiff, ↓reduceIte, reduceCtorEq, Int.reduceAdd, Int.reduceSub, Int.reduceMul, Int.reduceNeg, Int.reduceToNat, List.reduceReplicate, String.reduceEq, zz1, zz2, zz3, zz4, zz5, List.drop_succ_cons, List.drop_zero]
  generalize upd H35 r36 (some (DObj.cells [DVal.int IntKind.u8 68, DVal.int IntKind.i64 0, DVal.int IntKind.i64 15] 121)) = H36 at t36 ⊢
  clear t35
  intro r37 h37; dsimp only at h37
  have t37 := t36.new h37 [DVal.int IntKind.u8 78, DVal.int IntKind.i64 6, DVal.int IntKind.i64 7, DVal.int IntKind.u8 77, DVal.int IntKind.i64 0, DVal.int IntKind.i64 65535]
  simp (disch := omega) only [go_sem, Nat.reduceEqDiff, Nat.reduceAdd, Nat.reduceMul, Nat.reduceSub, Nat.reduceLeDiff, ↓reduceIte, reduceCtorEq, Int.reduceAdd, Int.reduceSub, Int.reduceMul, Int.reduceNeg, Int.reduceToNat, List.reduceReplicate, String.reduceEq, zz1, zz2, zz3, zz4, zz5, List.drop_succ_cons, List.drop_zero]
  generalize upd H36 r37 (some (DObj.cells [DVal.int IntKind.u8 78, DVal.int IntKind.i64 6, DVal.int IntKind.i64 7, DVal.int IntKind.u8 77, DVal.int IntKind.i64 0, DVal.int IntKind.i64 65535] 121)) = H37 at t37 ⊢
  clear t36
  intro r38 h38; dsimp only at h38
  have t38 := t37.new h38 [DVal.int IntKind.u8 68, DVal.int IntKind.i64 0, DVal.int IntKind.i64 15]
  simp (disch := omega) only [go_sem, Nat.reduceEqDiff, Nat.reduceAdd, Nat.reduceMul, Nat.reduceSub, Nat.reduceLeDiff, ↓reduceIte, reduceCtorEq, Int.reduceAdd, Int.reduceSub, Int.reduceMul, Int.reduceNeg, Int.reduceToNat, List.reduceReplicate, String.reduceEq, zz1, zz2, zz3, zz4, zz5, List.drop_succ_cons, List.drop_zero]
  generalize upd H37 r38 (some (DObj.cells [DVal.int IntKind.u8 68, DVal.int IntKind.i64 0, DVal.int IntKind.i64 15] 121)) = H38 at t38 ⊢
  clear t37
  intro r39 h39; dsimp only at h39
  have t39 := t38.new h39 [DVal.int IntKind.u8 65, DVal.int IntKind.i64 0, DVal.int IntKind.i64 15]
  simp (disch := omega) only [go_sem, Nat.reduceEqDiff, Nat.reduceAdd, Nat.reduceMul, Nat.reduceSub, Nat.reduceLeDiff, ↓reduceIte, reduceCtorEq, Int.reduceAdd, Int.reduceSub, Int.reduceMul, Int.reduceNeg, Int.reduceToNat, List.reduceReplicate, String.reduceEq, zz1, zz2, zz3, zz4, zz5, List.drop_succ_cons, List.drop_zero]
  generalize upd H38 r39 (some (DObj.cells [DVal.int IntKind.u8 65, DVal.int IntKind.i64 0, DVal.int IntKind.i64 15] 121)) = H39 at t39 ⊢
  clear t38
  intro r40 h40; dsimp only at h40
  have t40 := t39.new h40 [DVal.int IntKind.u8 68, DVal.int IntKind.i64 0, DVal.int IntKind.i64 15]
  simp (disch := omega) only [go_sem, Nat.reduceEqDiff, Nat.reduceAdd, Nat.reduceMul, Nat.reduceSub, Nat.reduceLeDiff, ↓reduceIte, reduceCtorEq, Int.reduceAdd, Int.reduceSub, Int.reduceMul, Int.reduceNeg, Int.reduceToNat, List.reduceReplicate, String.reduceEq, zz1, zz2, zz3, zz4, zz5, List.drop_succ_cons, List.drop_zero]
  generalize upd H39 r40 (some (DObj.cells [DVal.int IntKind.u8 68, DVal.int IntKind.i64 0, DVal.int IntKind.i64 15] 121)) = H40 at t40 ⊢
  clear t39
  intro r41 h41; dsimp only at h41
  have t41 := t40.new h41 [DVal.int IntKind.u8 68, DVal.int IntKind.i64 0, DVal.int IntKind.i64 15, DVal.int IntKind.u8 78, DVal.int IntKind.i64 0, DVal.int IntKind.i64 7, DVal.int IntKind.u8 77, DVal.int IntKind.i64 (-1), DVal.int IntKind.i64 31]
  simp (disch := omega) only [go_sem, Nat.reduceEqDiff, Nat.reduceAdd, Nat.reduceMul, Nat.reduceSub, Nat.reduceLeDiff, ↓reduceIte, reduceCtorEq, Int.reduceAdd, Int.reduceSub, Int.reduceMul, Int.reduceNeg, Int.reduceToNat, List.reduceReplicate, String.reduceEq, zz1, zz2, zz3, zz4, zz5, List.drop_succ_cons, List.drop_zero]
  generalize upd H40 r41 (some (DObj.cells [DVal.int IntKind.u8 68, DVal.int IntKind.i64 0, DVal.int IntKind.i64 15, DVal.int IntKind.u8 78, DVal.int IntKind.i64 0, DVal.int IntKind.i64 7, DVal.int IntKind.u8 77, DVal.int IntKind.i64 (-1), DVal.int IntKind.i64 31] 121)) = H41 at t41 ⊢
  clear t40
  intro r42 h42; dsimp only at h42
  have t42 := t41.new h42 [DVal.int IntKind.u8 78, DVal.int IntKind.i64 0, DVal.int IntKind.i64 65535]
  simp (disch := omega) only [go_sem, Nat.reduceEqDiff, Nat.reduceAdd, Nat.reduceMul, Nat.reduceSub, Nat.reduceLeDiff, ↓reduceIte, reduceCtorEq, Int.reduceAdd, Int.reduceSub, Int.reduceMul, Int.reduceNeg, Int.reduceToNat, List.reduceReplicate, String.reduceEq, zz1, zz2, zz3, zz4, zz5, List.drop_succ_cons, List.drop_zero]
  generalize upd H41 r42 (some (DObj.cells [DVal.int IntKind.u8 78, DVal.int IntKind.i64 0, DVal.int IntKind.i64 65535] 121)) = H42 at t42 ⊢
  clear t41
  intro r43 h43; dsimp only at h43
  have t43 := t42.new h43 [DVal.int IntKind.u8 78, DVal.int IntKind.i64 0, DVal.int IntKind.i64 65535]
  simp (disch := omega) only [go_sem, Nat.reduceEqDiff, Nat.reduceAdd, Nat.reduceMul, Nat.reduceSub, Nat.reduceLeDiff, ↓reduceIte, reduceCtorEq, Int.reduceAdd, Int.reduceSub, Int.reduceMul, Int.reduceNeg, Int.reduceToNat, List.reduceReplicate, String.reduceEq, zz1, zz2, zz3, zz4, zz5, List.drop_succ_cons, List.drop_zero]
  generalize upd H42 r43 (some (DObj.cells [DVal.int IntKind.u8 78, DVal.int IntKind.i64 0, DVal.int IntKind.i64 65535] 121)) = H43 at t43 ⊢
  clear t42
  intro r44 h44; dsimp only at h44
  have t44 := t43.new h44 [DVal.int IntKind.u8 65, DVal.int IntKind.i64 0, DVal.int IntKind.i64 15, DVal.int IntKind.u8 78, DVal.int IntKind.i64 0, DVal.int IntKind.i64 65535]
  simp (disch := omega) only [go_sem, Nat.reduceEqDiff, Nat.reduceAdd, Nat.reduceMul, Nat.reduceSub, Nat.reduceLeDiff, ↓reduceIte, reduceCtorEq, Int.reduceAdd, Int.reduceSub, Int.reduceMul, Int.reduceNeg, Int.reduceToNat, List.reduceReplicate, String.reduceEq, zz1, zz2, zz3, zz4, zz5, List.drop_succ_cons, List.drop_zero]
  generalize upd H43 r44 (some (DObj.cells [DVal.int IntKind.u8 65, DVal.int IntKind.i64 0, DVal.int IntKind.i64 15, DVal.int IntKind.u8 78, DVal.int IntKind.i64 0, DVal.int IntKind.i64 65535] 121)) = H44 at t44 ⊢
  clear t43
  intro r45 h45; dsimp only at h45
  have t45 := t44.new h45 [DVal.int IntKind.u8 65, DVal.int IntKind.i64 0, DVal.int IntKind.i64 15]
  simp (disch := omega) only [go_sem, Nat.reduceEqDiff, Nat.reduceAdd, Nat.reduceMul, Nat.reduceSub, Nat.reduceLeDiff, ↓reduceIte, reduceCtorEq, Int.reduceAdd, Int.reduceSub, Int.reduceMul, Int.reduceNeg, Int.reduceToNat, List.reduceReplicate, String.reduceEq, zz1, zz2, zz3, zz4, zz5, List.drop_succ_cons, List.drop_zero]
  generalize upd H44 r45 (some (DObj.cells [DVal.int IntKind.u8 65, DVal.int IntKind.i64 0, DVal.int IntKind.i64 15] 121)) = H45 at t45 ⊢
  clear t44
  intro r46 h46; dsimp only at h46
  have t46 := t45.new h46 [DVal.int IntKind.u8 65, DVal.int IntKind.i64 0, DVal.int IntKind.i64 15]
  simp (disch := omega) only [go_sem, Nat.reduceEqDiff, Nat.reduceAdd, Nat.reduceMul, Nat.reduceSub, Nat.reduceLeDiff, ↓reduceIte, reduceCtorEq, Int.reduceAdd, Int.reduceSub, Int.reduceMul, Int.reduceNeg, Int.reduceToNat, List.reduceReplicate, String.reduceEq, zz1, zz2, zz3, zz4, zz5, List.drop_succ_cons, List.drop_zero]
  generalize upd H45 r46 (some (DObj.cells [DVal.int IntKind.u8 65, DVal.int IntKind.i64 0, DVal.int IntKind.i64 15] 121)) = H46 at t46 ⊢
  clear t45
  intro r47 h47; dsimp only at h47
  have t47 := t46.new h47 [DVal.int IntKind.u8 68, DVal.int IntKind.i64 0, DVal.int IntKind.i64 15, DVal.int IntKind.u8 65, DVal.int IntKind.i64 0, DVal.int IntKind.i64 31, DVal.int IntKind.u8 66, DVal.int IntKind.i64 0, DVal.int IntKind.i64 7, DVal.int IntKind.u8 78, DVal.int IntKind.i64 0, DVal.int IntKind.i64 4095, DVal.int IntKind.u8 77, DVal.int IntKind.i64 0, DVal.int IntKind.i64 3]
  simp (disch := omega) only [go_sem, Nat.reduceEqDiff, Nat.reduceAdd, Nat.reduceMul, Nat.reduceSub, Nat.reduceLeDiff, ↓reduceIte, reduceCtorEq, Int.reduceAdd, Int.reduceSub, Int.reduceMul, Int.reduceNeg, Int.reduceToNat, List.reduceReplicate, String.reduceEq, zz1, zz2, zz3, zz4, zz5, List.drop_succ_cons, List.drop_zero]
  generalize upd H46 r47 (some (DObj.cells [DVal.int IntKind.u8 68, DVal.int IntKind.i64 0, DVal.int IntKind.i64 15, DVal.int IntKind.u8 65, DVal.int IntKind.i64 0, DVal.int IntKind.i64 31, DVal.int IntKind.u8 66, DVal.int IntKind.i64 0, DVal.int IntKind.i64 7, DVal.int IntKind.u8 78, DVal.int IntKind.i64 0, DVal.int IntKind.i64 4095, DVal.int IntKind.u8 77, DVal.int IntKind.i64 0, DVal.int IntKind.i64 3] 121)) = H47 at t47 ⊢
  clear t46
  intro r48 h48; dsimp only at h48
  have t48 := t47.new h48 [DVal.int IntKind.u8 78, DVal.int IntKind.i64 0, DVal.int IntKind.i64 1023]
  simp (disch := omega) only [go_sem, Nat.reduceEqDiff, Nat.reduceAdd, Nat.reduceMul, Nat.reduceSub, Nat.reduceLeDiff, ↓reduceIte, reduceCtorEq, Int.reduceAdd, Int.reduceSub, Int.reduceMul, Int.reduceNeg, Int.reduceToNat, List.reduceReplicate, String.reduceEq, zz1, zz2, zz3, zz4, zz5, List.drop_succ_cons, List.drop_zero]
  generalize upd H47 r48 (some (DObj.cells [DVal.int IntKind.u8 78, DVal.int IntKind.i64 0, DVal.int IntKind.i64 1023] 121)) = H48 at t48 ⊢
  clear t47
  intro r49 h49; dsimp only at h49
  have t49 := t48.new h49 [DVal.int IntKind.u8 78, DVal.int IntKind.i64 0, DVal.int IntKind.i64 1]
  simp (disch := omega) only [go_sem, Nat.reduceEqDiff, Nat.reduceAdd, Nat.reduceMul, Nat.reduceSub, Nat.reduceLeDiff, ↓reduceIte, reduceCtorEq, Int.reduceAdd, Int.reduceSub, Int.reduceMul, Int.reduceNeg, Int.reduceToNat, List.reduceReplicate, String.reduceEq, zz1, zz2, zz3, zz4, zz5, List.drop_succ_cons, List.drop_zero]
  generalize upd H48 r49 (some (DObj.cells [DVal.int IntKind.u8 78, DVal.int IntKind.i64 0, DVal.int IntKind.i64 1] 121)) = H49 at t49 ⊢
  clear t48
  intro r50 h50; dsimp only at h50
  have t50 := t49.new h50 [DVal.int IntKind.u8 65, DVal.int IntKind.i64 0, DVal.int IntKind.i64 31, DVal.int IntKind.u8 66, DVal.int IntKind.i64 0, DVal.int IntKind.i64 7, DVal.int IntKind.u8 78, DVal.int IntKind.i64 0, DVal.int IntKind.i64 1, DVal.int IntKind.u8 84, DVal.int IntKind.i64 0, DVal.int IntKind.i64 65535]
  simp (disch := omega) only [go_sem, Nat.reduceEqDiff, Nat.reduceAdd, Nat.reduceMul, Nat.reduceSub, Nat.reduceLeDiff, ↓reduceIte, reduceCtorEq, Int.reduceAdd, Int.reduceSub, Int.reduceMul, Int.reduceNeg, Int.reduceToNat, List.reduceReplicate, String.reduceEq, zz1, zz2, zz3, zz4, zz5, List.drop_succ_cons, List.drop_zero]
  generalize upd H49 r50 (some (DObj.cells [DVal.int IntKind.u8 65, DVal.int IntKind.i64 0, DVal.int IntKind.i64 31, DVal.int IntKind.u8 66, DVal.int IntKind.i64 0, DVal.int IntKind.i64 7, DVal.int IntKind.u8 78, DVal.int IntKind.i64 0, DVal.int IntKind.i64 1, DVal.int IntKind.u8 84, DVal.int IntKind.i64 0, DVal.int IntKind.i64 65535] 121)) = H50 at t50 ⊢
  clear t49
  intro r51 h51; dsimp only at h51
  have t51 := t50.new h51 [DVal.int IntKind.u8 78, DVal.int IntKind.i64 0, DVal.int IntKind.i64 31]
  simp (disch := omega) only [go_sem, Nat.reduceEqDiff, Nat.reduceAdd, Nat.reduceMul, Nat.reduceSub, Nat.reduceLeDiff, ↓reduceIte, reduceCtorEq, Int.reduceAdd, Int.reduceSub, Int.reduceMul, Int.reduceNeg, Int.reduceToNat, List.reduceReplicate, String.reduceEq, zz1, zz2, zz3, zz4, zz5, List.drop_succ_cons, List.drop_zero]
  generalize upd H50 r51 (some (DObj.cells [DVal.int IntKind.u8 78, DVal.int IntKind.i64 0, DVal.int IntKind.i64 31] 121)) = H51 at t51 ⊢
  clear t50
  intro r52 h52; dsimp only at h52
  have t52 := t51.new h52 [DVal.int IntKind.u8 68, DVal.int IntKind.i64 0, DVal.int IntKind.i64 15, DVal.int IntKind.u8 65, DVal.int IntKind.i64 0, DVal.int IntKind.i64 15, DVal.int IntKind.u8 66, DVal.int IntKind.i64 0, DVal.int IntKind.i64 3, DVal.int IntKind.u8 78, DVal.int IntKind.i64 0, DVal.int IntKind.i64 31, DVal.int IntKind.u8 77, DVal.int IntKind.i64 0, DVal.int IntKind.i64 7]
  simp (disch := omega) only [go_sem, Nat.reduceEqDiff, Nat.reduceAdd, Nat.reduceMul, Nat.reduceSub, Nat.reduceLeDiff, ↓reduceIte, reduceCtorEq, Int.reduceAdd, Int.reduceSub, Int.reduceMul, Int.reduceNeg, Int.reduceToNat, List.reduceReplicate, String.reduceEq, zz1, zz2, zz3, zz4, zz5, List.drop_succ_cons, List.drop_zero]
  generalize upd H51 r52 (some (DObj.cells [DVal.int IntKind.u8 68, DVal.int IntKind.i64 0, DVal.int IntKind.i64 15, DVal.int IntKind.u8 65, DVal.int IntKind.i64 0, DVal.int IntKind.i64 15, DVal.int IntKind.u8 66, DVal.int IntKind.i64 0, DVal.int IntKind.i64 3, DVal.int IntKind.u8 78, DVal.int IntKind.i64 0, DVal.int IntKind.i64 31, DVal.int IntKind.u8 77, DVal.int IntKind.i64 0, DVal.int IntKind.i64 7] 121)) = H52 at t52 ⊢
  clear t51
  intro r53 h53; dsimp only at h53
  have t53 := t52.new h53 [DVal.int IntKind.u8 78, DVal.int IntKind.i64 0, DVal.int IntKind.i64 31]
  simp (disch := omega) only [go_sem, Nat.reduceEqDiff, Nat.reduceAdd, Nat.reduceMul, Nat.reduceSub, Nat.reduceLeDiff, ↓reduceIte, reduceCtorEq, Int.reduceAdd, Int.reduceSub, Int.reduceMul, Int.reduceNeg, Int.reduceToNat, List.reduceReplicate, String.reduceEq, zz1, zz2, zz3, zz4, zz5, List.drop_succ_cons, List.drop_zero]
  generalize upd H52 r53 (some (DObj.cells [DVal.int IntKind.u8 78, DVal.int IntKind.i64 0, DVal.int IntKind.i64 31] 121)) = H53 at t53 ⊢
  clear t52
  -- the outermost slice
  intro r54 h54; dsimp only at h54
  have hf : dfill (placeA 3) (repl 57 [DVal.int IntKind.u8 0, DVal.str [], DVal.nilSlice]) [(0, DVal.agg [DVal.int IntKind.u8 1, DVal.str [108, 105], DVal.oslice 3 r1 0 2 2]), (1, DVal.agg [DVal.int IntKind.u8 2, DVal.str [109, 118], DVal.oslice 3 r2 0 2 2]), (2, DVal.agg [DVal.int IntKind.u8 3, DVal.str [108, 100], DVal.oslice 3 r3 0 3 3]), (3, DVal.agg [DVal.int IntKind.u8 4, DVal.str [115, 116], DVal.oslice 3 r4 0 3 3]), (4, DVal.agg [DVal.int IntKind.u8 5, DVal.str [108, 100, 120], DVal.oslice 3 r5 0 5 5]), (5, DVal.agg [DVal.int IntKind.u8 6, DVal.str [115, 116, 120], DVal.oslice 3 r6 0 5 5]), (6, DVal.agg [DVal.int IntKind.u8 7, DVal.str [108, 100, 97], DVal.oslice 3 r7 0 2 2]), (7, DVal.agg [DVal.int IntKind.u8 8, DVal.str [115, 116, 97], DVal.oslice 3 r8 0 2 2]), (8, DVal.agg [DVal.int IntKind.u8 9, DVal.str [97, 100, 100], DVal.oslice 3 r9 0 3 3]), (9, DVal.agg [DVal.int IntKind.u8 10, DVal.str [115, 117, 98], DVal.oslice 3 r10 0 3 3]), (10, DVal.agg [DVal.int IntKind.u8 11, DVal.str [109, 117, 108], DVal.oslice 3 r11 0 3 3]), (11, DVal.agg [DVal.int IntKind.u8 12, DVal.str [100, 105, 118], DVal.oslice 3 r12 0 3 3]), (12, DVal.agg [DVal.int IntKind.u8 13, DVal.str [114, 101, 109], DVal.oslice 3 r13 0 3 3]), (13, DVal.agg [DVal.int IntKind.u8 14, DVal.str [109, 111, 100], DVal.oslice 3 r14 0 3 3]), (14, DVal.agg [DVal.int IntKind.u8 15, DVal.str [101, 113], DVal.oslice 3 r15 0 3 3]), (15, DVal.agg [DVal.int IntKind.u8 16, DVal.str [110, 101], DVal.oslice 3 r16 0 3 3]), (16, DVal.agg [DVal.int IntKind.u8 17, DVal.str [108, 116], DVal.oslice 3 r17 0 3 3]), (17, DVal.agg [DVal.int IntKind.u8 18, DVal.str [108, 101], DVal.oslice 3 r18 0 3 3]), (18, DVal.agg [DVal.int IntKind.u8 19, DVal.str [103, 116], DVal.oslice 3 r19 0 3 3]), (19, DVal.agg [DVal.int IntKind.u8 20, DVal.str [103, 101], DVal.oslice 3 r20 0 3 3]), (20, DVal.agg [DVal.int IntKind.u8 21, DVal.str [97, 110, 100], DVal.oslice 3 r21 0 3 3]), (21, DVal.agg [DVal.int IntKind.u8 22, DVal.str [111, 114], DVal.oslice 3 r22 0 3 3]), (22, DVal.agg [DVal.int IntKind.u8 23, DVal.str [120, 111, 114], DVal.oslice 3 r23 0 3 3]), (23, DVal.agg [DVal.int IntKind.u8 24, DVal.str [110, 101, 103], DVal.oslice 3 r24 0 2 2]), (24, DVal.agg [DVal.int IntKind.u8 25, DVal.str [97, 98, 115], DVal.oslice 3 r25 0 2 2]), (25, DVal.agg [DVal.int IntKind.u8 26, DVal.str [110, 111, 116], DVal.oslice 3 r26 0 2 2]), (26, DVal.agg [DVal.int IntKind.u8 27, DVal.str [99, 104, 107], DVal.oslice 3 r27 0 3 3]), (27, DVal.agg [DVal.int IntKind.u8 28, DVal.str [99, 104, 107, 122], DVal.oslice 3 r28 0 1 1]), (28, DVal.agg [DVal.int IntKind.u8 29, DVal.str [106, 109, 112], DVal.oslice 3 r29 0 1 1]), (29, DVal.agg [DVal.int IntKind.u8 30, DVal.str [106, 122], DVal.oslice 3 r30 0 2 2]), (30, DVal.agg [DVal.int IntKind.u8 31, DVal.str [106, 110, 122], DVal.oslice 3 r31 0 2 2]), (31, DVal.agg [DVal.int IntKind.u8 32, DVal.str [106, 116], DVal.oslice 3 r32 0 4 4]), (32, DVal.agg [DVal.int IntKind.u8 33, DVal.str [114, 97, 105, 115, 101], DVal.oslice 3 r33 0 1 1]), (33, DVal.agg [DVal.int IntKind.u8 34, DVal.str [114, 97, 105, 115, 101, 114], DVal.oslice 3 r34 0 1 1]), (34, DVal.agg [DVal.int IntKind.u8 35, DVal.str [99, 111, 110, 116], DVal.oslice 3 r35 0 1 1]), (35, DVal.agg [DVal.int IntKind.u8 36, DVal.str [101, 120, 99], DVal.oslice 3 r36 0 1 1]), (36, DVal.agg [DVal.int IntKind.u8 37, DVal.str [109, 97, 114, 107], DVal.oslice 3 r37 0 2 2]), (37, DVal.agg [DVal.int IntKind.u8 38, DVal.str [103, 101, 116], DVal.oslice 3 r38 0 1 1]), (38, DVal.agg [DVal.int IntKind.u8 39, DVal.str [112, 117, 116], DVal.oslice 3 r39 0 1 1]), (39, DVal.agg [DVal.int IntKind.u8 40, DVal.str [100, 101, 102, 101, 114], DVal.nilSlice]), (40, DVal.agg [DVal.int IntKind.u8 41, DVal.str [97, 108, 108, 111, 119], DVal.nilSlice]), (41, DVal.agg [DVal.int IntKind.u8 42, DVal.str [99, 108, 111, 99, 107], DVal.oslice 3 r40 0 1 1]), (42, DVal.agg [DVal.int IntKind.u8 43, DVal.str [99, 111, 117, 110, 116], DVal.oslice 3 r41 0 3 3]), (43, DVal.agg [DVal.int IntKind.u8 44, DVal.str [115, 116, 97, 114, 116], DVal.oslice 3 r42 0 1 1]), (44, DVal.agg [DVal.int IntKind.u8 45, DVal.str [110, 101, 118, 101, 114], DVal.oslice 3 r43 0 1 1]), (45, DVal.agg [DVal.int IntKind.u8 46, DVal.str [97, 119, 97, 105, 116], DVal.oslice 3 r44 0 2 2]), (46, DVal.agg [DVal.int IntKind.u8 47, DVal.str [100, 101, 108, 97, 121], DVal.oslice 3 r45 0 1 1]), (47, DVal.agg [DVal.int IntKind.u8 48, DVal.str [117, 110, 116, 105, 108], DVal.oslice 3 r46 0 1 1]), (48, DVal.agg [DVal.int IntKind.u8 49, DVal.str [99, 97, 108, 108], DVal.oslice 3 r47 0 5 5]), (49, DVal.agg [DVal.int IntKind.u8 50, DVal.str [115, 101, 108], DVal.oslice 3 r48 0 1 1]), (50, DVal.agg [DVal.int IntKind.u8 51, DVal.str [100, 111, 110, 101], DVal.oslice 3 r49 0 1 1]), (51, DVal.agg [DVal.int IntKind.u8 52, DVal.str [114, 101, 113], DVal.oslice 3 r50 0 4 4]), (52, DVal.agg [DVal.int IntKind.u8 53, DVal.str [108, 111, 99, 107], DVal.oslice 3 r51 0 1 1]), (53, DVal.agg [DVal.int IntKind.u8 54, DVal.str [112, 101, 110, 116], DVal.oslice 3 r52 0 5 5]), (54, DVal.agg [DVal.int IntKind.u8 55, DVal.str [117, 110, 108, 111, 99, 107], DVal.oslice 3 r53 0 1 1]), (55, DVal.agg [DVal.int IntKind.u8 56, DVal.str [97, 98, 111, 114, 116], DVal.oslice 3 r54 0 1 1]), (56, DVal.agg [DVal.int IntKind.u8 57, DVal.str [101, 110, 100], DVal.nilSlice])] = some ([DVal.agg [DVal.int IntKind.u8 1, DVal.str [108, 105], DVal.oslice 3 r1 0 2 2], DVal.agg [DVal.int IntKind.u8 2, DVal.str [109, 118], DVal.oslice 3 r2 0 2 2], DVal.agg [DVal.int IntKind.u8 3, DVal.str [108, 100], DVal.oslice 3 r3 0 3 3], DVal.agg [DVal.int IntKind.u8 4, DVal.str [115, 116], DVal.oslice 3 r4 0 3 3], DVal.agg [DVal.int IntKind.u8 5, DVal.str [108, 100, 120], DVal.oslice 3 r5 0 5 5], DVal.agg [DVal.int IntKind.u8 6, DVal.str [115, 116, 120], DVal.oslice 3 r6 0 5 5], DVal.agg [DVal.int IntKind.u8 7, DVal.str [108, 100, 97], DVal.oslice 3 r7 0 2 2], DVal.agg [DVal.int IntKind.u8 8, DVal.str [115, 116, 97], DVal.oslice 3 r8 0 2 2], DVal.agg [DVal.int IntKind.u8 9, DVal.str [97, 100, 100], DVal.oslice 3 r9 0 3 3], DVal.agg [DVal.int IntKind.u8 10, DVal.str [115, 117, 98], DVal.oslice 3 r10 0 3 3], DVal.agg [DVal.int IntKind.u8 11, DVal.str [109, 117, 108], DVal.oslice 3 r11 0 3 3], DVal.agg [DVal.int IntKind.u8 12, DVal.str [100, 105, 118], DVal.oslice 3 r12 0 3 3], DVal.agg [DVal.int IntKind.u8 13, DVal.str [114, 101, 109], DVal.oslice 3 r13 0 3 3], DVal.agg [DVal.int IntKind.u8 14, DVal.str [109, 111, 100], DVal.oslice 3 r14 0 3 3], DVal.agg [DVal.int IntKind.u8 15, DVal.str [101, 113], DVal.oslice 3 r15 0 3 3], DVal.agg [DVal.int IntKind.u8 16, DVal.str [110, 101], DVal.oslice 3 r16 0 3 3], DVal.agg [DVal.int IntKind.u8 17, DVal.str [108, 116], DVal.oslice 3 r17 0 3 3], DVal.agg [DVal.int IntKind.u8 18, DVal.str [108, 101], DVal.oslice 3 r18 0 3 3], DVal.agg [DVal.int IntKind.u8 19, DVal.str [103, 116], DVal.oslice 3 r19 0 3 3], DVal.agg [DVal.int IntKind.u8 20, DVal.str [103, 101], DVal.oslice 3 r20 0 3 3], DVal.agg [DVal.int IntKind.u8 21, DVal.str [97, 110, 100], DVal.oslice 3 r21 0 3 3], DVal.agg [DVal.int IntKind.u8 22, DVal.str [111, 114], DVal.oslice 3 r22 0 3 3], DVal.agg [DVal.int IntKind.u8 23, DVal.str [120, 111, 114], DVal.oslice 3 r23 0 3 3], DVal.agg [DVal.int IntKind.u8 24, DVal.str [110, 101, 103], DVal.oslice 3 r24 0 2 2], DVal.agg [DVal.int IntKind.u8 25, DVal.str [97, 98, 115], DVal.oslice 3 r25 0 2 2], DVal.agg [DVal.int IntKind.u8 26, DVal.str [110, 111, 116], DVal.oslice 3 r26 0 2 2], DVal.agg [DVal.int IntKind.u8 27, DVal.str [99, 104, 107], DVal.oslice 3 r27 0 3 3], DVal.agg [DVal.int IntKind.u8 28, DVal.str [99, 104, 107, 122], DVal.oslice 3 r28 0 1 1], DVal.agg [DVal.int IntKind.u8 29, DVal.str [106, 109, 112], DVal.oslice 3 r29 0 1 1], DVal.agg [DVal.int IntKind.u8 30, DVal.str [106, 122], DVal.oslice 3 r30 0 2 2], DVal.agg [DVal.int IntKind.u8 31, DVal.str [106, 110, 122], DVal.oslice 3 r31 0 2 2], DVal.agg [DVal.int IntKind.u8 32, DVal.str [106, 116], DVal.oslice 3 r32 0 4 4], DVal.agg [DVal.int IntKind.u8 33, DVal.str [114, 97, 105, 115, 101], DVal.oslice 3 r33 0 1 1], DVal.agg [DVal.int IntKind.u8 34, DVal.str [114, 97, 105, 115, 101, 114], DVal.oslice 3 r34 0 1 1], DVal.agg [DVal.int IntKind.u8 35, DVal.str [99, 111, 110, 116], DVal.oslice 3 r35 0 1 1], DVal.agg [DVal.int IntKind.u8 36, DVal.str [101, 120, 99], DVal.oslice 3 r36 0 1 1], DVal.agg [DVal.int IntKind.u8 37, DVal.str [109, 97, 114, 107], DVal.oslice 3 r37 0 2 2], DVal.agg [DVal.int IntKind.u8 38, DVal.str [103, 101, 116], DVal.oslice 3 r38 0 1 1], DVal.agg [DVal.int IntKind.u8 39, DVal.str [112, 117, 116], DVal.oslice 3 r39 0 1 1], DVal.agg [DVal.int IntKind.u8 40, DVal.str [100, 101, 102, 101, 114], DVal.nilSlice], DVal.agg [DVal.int IntKind.u8 41, DVal.str [97, 108, 108, 111, 119], DVal.nilSlice], DVal.agg [DVal.int IntKind.u8 42, DVal.str [99, 108, 111, 99, 107], DVal.oslice 3 r40 0 1 1], DVal.agg [DVal.int IntKind.u8 43, DVal.str [99, 111, 117, 110, 116], DVal.oslice 3 r41 0 3 3], DVal.agg [DVal.int IntKind.u8 44, DVal.str [115, 116, 97, 114, 116], DVal.oslice 3 r42 0 1 1], DVal.agg [DVal.int IntKind.u8 45, DVal.str [110, 101, 118, 101, 114], DVal.oslice 3 r43 0 1 1], DVal.agg [DVal.int IntKind.u8 46, DVal.str [97, 119, 97, 105, 116], DVal.oslice 3 r44 0 2 2], DVal.agg [DVal.int IntKind.u8 47, DVal.str [100, 101, 108, 97, 121], DVal.oslice 3 r45 0 1 1], DVal.agg [DVal.int IntKind.u8 48, DVal.str [117, 110, 116, 105, 108], DVal.oslice 3 r46 0 1 1], DVal.agg [DVal.int IntKind.u8 49, DVal.str [99, 97, 108, 108], DVal.oslice 3 r47 0 5 5], DVal.agg [DVal.int IntKind.u8 50, DVal.str [115, 101, 108], DVal.oslice 3 r48 0 1 1], DVal.agg [DVal.int IntKind.u8 51, DVal.str [100, 111, 110, 101], DVal.oslice 3 r49 0 1 1], DVal.agg [DVal.int IntKind.u8 52, DVal.str [114, 101, 113], DVal.oslice 3 r50 0 4 4], DVal.agg [DVal.int IntKind.u8 53, DVal.str [108, 111, 99, 107], DVal.oslice 3 r51 0 1 1], DVal.agg [DVal.int IntKind.u8 54, DVal.str [112, 101, 110, 116], DVal.oslice 3 r52 0 5 5], DVal.agg [DVal.int IntKind.u8 55, DVal.str [117, 110, 108, 111, 99, 107], DVal.oslice 3 r53 0 1 1], DVal.agg [DVal.int IntKind.u8 56, DVal.str [97, 98, 111, 114, 116], DVal.oslice 3 r54 0 1 1], DVal.agg [DVal.int IntKind.u8 57, DVal.str [101, 110, 100], DVal.nilSlice]].flatMap DVal.cells) := dfill_seq 3 [DVal.agg [DVal.int IntKind.u8 1, DVal.str [108, 105], DVal.oslice 3 r1 0 2 2], DVal.agg [DVal.int IntKind.u8 2, DVal.str [109, 118], DVal.oslice 3 r2 0 2 2], DVal.agg [DVal.int IntKind.u8 3, DVal.str [108, 100], DVal.oslice 3 r3 0 3 3], DVal.agg [DVal.int IntKind.u8 4, DVal.str [115, 116], DVal.oslice 3 r4 0 3 3], DVal.agg [DVal.int IntKind.u8 5, DVal.str [108, 100, 120], DVal.oslice 3 r5 0 5 5], DVal.agg [DVal.int IntKind.u8 6, DVal.str [115, 116, 120], DVal.oslice 3 r6 0 5 5], DVal.agg [DVal.int IntKind.u8 7, DVal.str [108, 100, 97], DVal.oslice 3 r7 0 2 2], DVal.agg [DVal.int IntKind.u8 8, DVal.str [115, 116, 97], DVal.oslice 3 r8 0 2 2], DVal.agg [DVal.int IntKind.u8 9, DVal.str [97, 100, 100], DVal.oslice 3 r9 0 3 3], DVal.agg [DVal.int IntKind.u8 10, DVal.str [115, 117, 98], DVal.oslice 3 r10 0 3 3], DVal.agg [DVal.int IntKind.u8 11, DVal.str [109, 117, 108], DVal.oslice 3 r11 0 3 3], DVal.agg [DVal.int IntKind.u8 12, DVal.str [100, 105, 118], DVal.oslice 3 r12 0 3 3], DVal.agg [DVal.int IntKind.u8 13, DVal.str [114, 101, 109], DVal.oslice 3 r13 0 3 3], DVal.agg [DVal.int IntKind.u8 14, DVal.str [109, 111, 100], DVal.oslice 3 r14 0 3 3], DVal.agg [DVal.int IntKind.u8 15, DVal.str [101, 113], DVal.oslice 3 r15 0 3 3], DVal.agg [DVal.int IntKind.u8 16, DVal.str [110, 101], DVal.oslice 3 r16 0 3 3], DVal.agg [DVal.int IntKind.u8 17, DVal.str [108, 116], DVal.oslice 3 r17 0 3 3], DVal.agg [DVal.int IntKind.u8 18, DVal.str [108, 101], DVal.oslice 3 r18 0 3 3], DVal.agg [DVal.int IntKind.u8 19, DVal.str [103, 116], DVal.oslice 3 r19 0 3 3], DVal.agg [DVal.int IntKind.u8 20, DVal.str [103, 101], DVal.oslice 3 r20 0 3 3], DVal.agg [DVal.int IntKind.u8 21, DVal.str [97, 110, 100], DVal.oslice 3 r21 0 3 3], DVal.agg [DVal.int IntKind.u8 22, DVal.str [111, 114], DVal.oslice 3 r22 0 3 3], DVal.agg [DVal.int IntKind.u8 23, DVal.str [120, 111, 114], DVal.oslice 3 r23 0 3 3], DVal.agg [DVal.int IntKind.u8 24, DVal.str [110, 101, 103], DVal.oslice 3 r24 0 2 2], DVal.agg [DVal.int IntKind.u8 25, DVal.str [97, 98, 115], DVal.oslice 3 r25 0 2 2], DVal.agg [DVal.int IntKind.u8 26, DVal.str [110, 111, 116], DVal.oslice 3 r26 0 2 2], DVal.agg [DVal.int IntKind.u8 27, DVal.str [99, 104, 107], DVal.oslice 3 r27 0 3 3], DVal.agg [DVal.int IntKind.u8 28, DVal.str [99, 104, 107, 122], DVal.oslice 3 r28 0 1 1], DVal.agg [DVal.int IntKind.u8 29, DVal.str [106, 109, 112], DVal.oslice 3 r29 0 1 1], DVal.agg [DVal.int IntKind.u8 30, DVal.str [106, 122], DVal.oslice 3 r30 0 2 2], DVal.agg [DVal.int IntKind.u8 31, DVal.str [106, 110, 122], DVal.oslice 3 r31 0 2 2], DVal.agg [DVal.int IntKind.u8 32, DVal.str [106, 116], DVal.oslice 3 r32 0 4 4], DVal.agg [DVal.int IntKind.u8 33, DVal.str [114, 97, 105, 115, 101], DVal.oslice 3 r33 0 1 1], DVal.agg [DVal.int IntKind.u8 34, DVal.str [114, 97, 105, 115, 101, 114], DVal.oslice 3 r34 0 1 1], DVal.agg [DVal.int IntKind.u8 35, DVal.str [99, 111, 110, 116], DVal.oslice 3 r35 0 1 1], DVal.agg [DVal.int IntKind.u8 36, DVal.str [101, 120, 99], DVal.oslice 3 r36 0 1 1], DVal.agg [DVal.int IntKind.u8 37, DVal.str [109, 97, 114, 107], DVal.oslice 3 r37 0 2 2], DVal.agg [DVal.int IntKind.u8 38, DVal.str [103, 101, 116], DVal.oslice 3 r38 0 1 1], DVal.agg [DVal.int IntKind.u8 39, DVal.str [112, 117, 116], DVal.oslice 3 r39 0 1 1], DVal.agg [DVal.int IntKind.u8 40, DVal.str [100, 101, 102, 101, 114], DVal.nilSlice], DVal.agg [DVal.int IntKind.u8 41, DVal.str [97, 108, 108, 111, 119], DVal.nilSlice], DVal.agg [DVal.int IntKind.u8 42, DVal.str [99, 108, 111, 99, 107], DVal.oslice 3 r40 0 1 1], DVal.agg [DVal.int IntKind.u8 43, DVal.str [99, 111, 117, 110, 116], DVal.oslice 3 r41 0 3 3], DVal.agg [DVal.int IntKind.u8 44, DVal.str [115, 116, 97, 114, 116], DVal.oslice 3 r42 0 1 1], DVal.agg [DVal.int IntKind.u8 45, DVal.str [110, 101, 118, 101, 114], DVal.oslice 3 r43 0 1 1], DVal.agg [DVal.int IntKind.u8 46, DVal.str [97, 119, 97, 105, 116], DVal.oslice 3 r44 0 2 2], DVal.agg [DVal.int IntKind.u8 47, DVal.str [100, 101, 108, 97, 121], DVal.oslice 3 r45 0 1 1], DVal.agg [DVal.int IntKind.u8 48, DVal.str [117, 110, 116, 105, 108], DVal.oslice 3 r46 0 1 1], DVal.agg [DVal.int IntKind.u8 49, DVal.str [99, 97, 108, 108], DVal.oslice 3 r47 0 5 5], DVal.agg [DVal.int IntKind.u8 50, DVal.str [115, 101, 108], DVal.oslice 3 r48 0 1 1], DVal.agg [DVal.int IntKind.u8 51, DVal.str [100, 111, 110, 101], DVal.oslice 3 r49 0 1 1], DVal.agg [DVal.int IntKind.u8 52, DVal.str [114, 101, 113], DVal.oslice 3 r50 0 4 4], DVal.agg [DVal.int IntKind.u8 53, DVal.str [108, 111, 99, 107], DVal.oslice 3 r51 0 1 1], DVal.agg [DVal.int IntKind.u8 54, DVal.str [112, 101, 110, 116], DVal.oslice 3 r52 0 5 5], DVal.agg [DVal.int IntKind.u8 55, DVal.str [117, 110, 108, 111, 99, 107], DVal.oslice 3 r53 0 1 1], DVal.agg [DVal.int IntKind.u8 56, DVal.str [97, 98, 111, 114, 116], DVal.oslice 3 r54 0 1 1], DVal.agg [DVal.int IntKind.u8 57, DVal.str [101, 110, 100], DVal.nilSlice]] [] _ 0 rfl (by simp [DVal.cells]) rfl
  have t54 := t53.new h54 [DVal.int IntKind.u8 78, DVal.int IntKind.i64 0, DVal.int IntKind.i64 65535]
  simp (maxSteps := 4000000) (disch := omega) only [go_sem, Nat.reduceEqDiff, Nat.reduceAdd, Nat.reduceMul, Nat.reduceSub, Nat.reduceLeDiff, ↓reduceIte, reduceCtorEq, Int.reduceAdd, Int.reduceSub, Int.reduceMul, Int.reduceNeg, Int.reduceToNat, List.reduceReplicate, String.reduceEq, dfillS, hf, zz1, zz2, zz3, zz4, zz5, List.drop_succ_cons, List.drop_zero]
  generalize upd H53 r54 (some (DObj.cells [DVal.int IntKind.u8 78, DVal.int IntKind.i64 0, DVal.int IntKind.i64 65535] 121)) = H54 at t54 ⊢
  clear t53
  intro ro ho; dsimp only at ho
  simp (disch := omega) only [go_sem, Nat.reduceEqDiff, Nat.reduceAdd, Nat.reduceMul, Nat.reduceSub, Nat.reduceLeDiff, ↓reduceIte, reduceCtorEq, Int.reduceAdd, Int.reduceSub, Int.reduceMul, Int.reduceNeg, Int.reduceToNat, List.reduceReplicate, String.reduceEq]
  refine DFin.ghost (Thaws.ghost (n := 57) (size := 3) (fs := rrT.flatMap dRRow) t54.1 ho rfl ?_ rfl) (.refl ⟨rfl, rfl⟩)
  rw [show rrT.flatMap dRRow = [DVal.int IntKind.u8 1, DVal.str [108, 105], DVal.vslice [DVal.int IntKind.u8 68, DVal.int IntKind.i64 0, DVal.int IntKind.i64 15, DVal.int IntKind.u8 78, DVal.int IntKind.i64 (-9223372036854775808), DVal.int IntKind.i64 9223372036854775807] 2, DVal.int IntKind.u8 2, DVal.str [109, 118], DVal.vslice [DVal.int IntKind.u8 68, DVal.int IntKind.i64 0, DVal.int IntKind.i64 15, DVal.int IntKind.u8 65, DVal.int IntKind.i64 0, DVal.int IntKind.i64 15] 2, DVal.int IntKind.u8 3, DVal.str [108, 100], DVal.vslice [DVal.int IntKind.u8 68, DVal.int IntKind.i64 0, DVal.int IntKind.i64 15, DVal.int IntKind.u8 78, DVal.int IntKind.i64 0, DVal.int IntKind.i64 4095, DVal.int IntKind.u8 77, DVal.int IntKind.i64 0, DVal.int IntKind.i64 65535] 3, DVal.int IntKind.u8 4, DVal.str [115, 116], DVal.vslice [DVal.int IntKind.u8 65, DVal.int IntKind.i64 0, DVal.int IntKind.i64 15, DVal.int IntKind.u8 78, DVal.int IntKind.i64 0, DVal.int IntKind.i64 4095, DVal.int IntKind.u8 77, DVal.int IntKind.i64 0, DVal.int IntKind.i64 65535] 3, DVal.int IntKind.u8 5, DVal.str [108, 100, 120], DVal.vslice [DVal.int IntKind.u8 68, DVal.int IntKind.i64 0, DVal.int IntKind.i64 15, DVal.int IntKind.u8 65, DVal.int IntKind.i64 0, DVal.int IntKind.i64 15, DVal.int IntKind.u8 66, DVal.int IntKind.i64 1, DVal.int IntKind.i64 65536, DVal.int IntKind.u8 78, DVal.int IntKind.i64 0, DVal.int IntKind.i64 4095, DVal.int IntKind.u8 77, DVal.int IntKind.i64 0, DVal.int IntKind.i64 65535] 5, DVal.int IntKind.u8 6, DVal.str [115, 116, 120], DVal.vslice [DVal.int IntKind.u8 68, DVal.int IntKind.i64 0, DVal.int IntKind.i64 15, DVal.int IntKind.u8 65, DVal.int IntKind.i64 0, DVal.int IntKind.i64 15, DVal.int IntKind.u8 66, DVal.int IntKind.i64 1, DVal.int IntKind.i64 65536, DVal.int IntKind.u8 78, DVal.int IntKind.i64 0, DVal.int IntKind.i64 4095, DVal.int IntKind.u8 77, DVal.int IntKind.i64 0, DVal.int IntKind.i64 65535] 5, DVal.int IntKind.u8 7, DVal.str [108, 100, 97], DVal.vslice [DVal.int IntKind.u8 68, DVal.int IntKind.i64 0, DVal.int IntKind.i64 15, DVal.int IntKind.u8 65, DVal.int IntKind.i64 0, DVal.int IntKind.i64 15] 2, DVal.int IntKind.u8 8, DVal.str [115, 116, 97], DVal.vslice [DVal.int IntKind.u8 68, DVal.int IntKind.i64 0, DVal.int IntKind.i64 15, DVal.int IntKind.u8 65, DVal.int IntKind.i64 0, DVal.int IntKind.i64 15] 2, DVal.int IntKind.u8 9, DVal.str [97, 100, 100], DVal.vslice [DVal.int IntKind.u8 68, DVal.int IntKind.i64 0, DVal.int IntKind.i64 15, DVal.int IntKind.u8 65, DVal.int IntKind.i64 0, DVal.int IntKind.i64 15, DVal.int IntKind.u8 66, DVal.int IntKind.i64 0, DVal.int IntKind.i64 15] 3, DVal.int IntKind.u8 10, DVal.str [115, 117, 98], DVal.vslice [DVal.int IntKind.u8 68, DVal.int IntKind.i64 0, DVal.int IntKind.i64 15, DVal.int IntKind.u8 65, DVal.int IntKind.i64 0, DVal.int IntKind.i64 15, DVal.int IntKind.u8 66, DVal.int IntKind.i64 0, DVal.int IntKind.i64 15] 3, DVal.int IntKind.u8 11, DVal.str [109, 117, 108], DVal.vslice [DVal.int IntKind.u8 68, DVal.int IntKind.i64 0, DVal.int IntKind.i64 15, DVal.int IntKind.u8 65, DVal.int IntKind.i64 0, DVal.int IntKind.i64 15, DVal.int IntKind.u8 66, DVal.int IntKind.i64 0, DVal.int IntKind.i64 15] 3, DVal.int IntKind.u8 12, DVal.str [100, 105, 118], DVal.vslice [DVal.int IntKind.u8 68, DVal.int IntKind.i64 0, DVal.int IntKind.i64 15, DVal.int IntKind.u8 65, DVal.int IntKind.i64 0, DVal.int IntKind.i64 15, DVal.int IntKind.u8 66, DVal.int IntKind.i64 0, DVal.int IntKind.i64 15] 3, DVal.int IntKind.u8 13, DVal.str [114, 101, 109], DVal.vslice [DVal.int IntKind.u8 68, DVal.int IntKind.i64 0, DVal.int IntKind.i64 15, DVal.int IntKind.u8 65, DVal.int IntKind.i64 0, DVal.int IntKind.i64 15, DVal.int IntKind.u8 66, DVal.int IntKind.i64 0, DVal.int IntKind.i64 15] 3, DVal.int IntKind.u8 14, DVal.str [109, 111, 100], DVal.vslice [DVal.int IntKind.u8 68, DVal.int IntKind.i64 0, DVal.int IntKind.i64 15, DVal.int IntKind.u8 65, DVal.int IntKind.i64 0, DVal.int IntKind.i64 15, DVal.int IntKind.u8 66, DVal.int IntKind.i64 0, DVal.int IntKind.i64 15] 3, DVal.int IntKind.u8 15, DVal.str [101, 113], DVal.vslice [DVal.int IntKind.u8 68, DVal.int IntKind.i64 0, DVal.int IntKind.i64 15, DVal.int IntKind.u8 65, DVal.int IntKind.i64 0, DVal.int IntKind.i64 15, DVal.int IntKind.u8 66, DVal.int IntKind.i64 0, DVal.int IntKind.i64 15] 3, DVal.int IntKind.u8 16, DVal.str [110, 101], DVal.vslice [DVal.int IntKind.u8 68, DVal.int IntKind.i64 0, DVal.int IntKind.i64 15, DVal.int IntKind.u8 65, DVal.int IntKind.i64 0, DVal.int IntKind.i64 15, DVal.int IntKind.u8 66, DVal.int IntKind.i64 0, DVal.int IntKind.i64 15] 3, DVal.int IntKind.u8 17, DVal.str [108, 116], DVal.vslice [DVal.int IntKind.u8 68, DVal.int IntKind.i64 0, DVal.int IntKind.i64 15, DVal.int IntKind.u8 65, DVal.int IntKind.i64 0, DVal.int IntKind.i64 15, DVal.int IntKind.u8 66, DVal.int IntKind.i64 0, DVal.int IntKind.i64 15] 3, DVal.int IntKind.u8 18, DVal.str [108, 101], DVal.vslice [DVal.int IntKind.u8 68, DVal.int IntKind.i64 0, DVal.int IntKind.i64 15, DVal.int IntKind.u8 65, DVal.int IntKind.i64 0, DVal.int IntKind.i64 15, DVal.int IntKind.u8 66, DVal.int IntKind.i64 0, DVal.int IntKind.i64 15] 3, DVal.int IntKind.u8 19, DVal.str [103, 116], DVal.vslice [DVal.int IntKind.u8 68, DVal.int IntKind.i64 0, DVal.int IntKind.i64 15, DVal.int IntKind.u8 65, DVal.int IntKind.i64 0, DVal.int IntKind.i64 15, DVal.int IntKind.u8 66, DVal.int IntKind.i64 0, DVal.int IntKind.i64 15] 3, DVal.int IntKind.u8 20, DVal.str [103, 101], DVal.vslice [DVal.int IntKind.u8 68, DVal.int IntKind.i64 0, DVal.int IntKind.i64 15, DVal.int IntKind.u8 65, DVal.int IntKind.i64 0, DVal.int IntKind.i64 15, DVal.int IntKind.u8 66, DVal.int IntKind.i64 0, DVal.int IntKind.i64 15] 3, DVal.int IntKind.u8 21, DVal.str [97, 110, 100], DVal.vslice [DVal.int IntKind.u8 68, DVal.int IntKind.i64 0, DVal.int IntKind.i64 15, DVal.int IntKind.u8 65, DVal.int IntKind.i64 0, DVal.int IntKind.i64 15, DVal.int IntKind.u8 66, DVal.int IntKind.i64 0, DVal.int IntKind.i64 15] 3, DVal.int IntKind.u8 22, DVal.str [111, 114], DVal.vslice [DVal.int IntKind.u8 68, DVal.int IntKind.i64 0, DVal.int IntKind.i64 15, DVal.int IntKind.u8 65, DVal.int IntKind.i64 0, DVal.int IntKind.i64 15, DVal.int IntKind.u8 66, DVal.int IntKind.i64 0, DVal.int IntKind.i64 15] 3, DVal.int IntKind.u8 23, DVal.str [120, 111, 114], DVal.vslice [DVal.int IntKind.u8 68, DVal.int IntKind.i64 0, DVal.int IntKind.i64 15, DVal.int IntKind.u8 65, DVal.int IntKind.i64 0, DVal.int IntKind.i64 15, DVal.int IntKind.u8 66, DVal.int IntKind.i64 0, DVal.int IntKind.i64 15] 3, DVal.int IntKind.u8 24, DVal.str [110, 101, 103], DVal.vslice [DVal.int IntKind.u8 68, DVal.int IntKind.i64 0, DVal.int IntKind.i64 15, DVal.int IntKind.u8 65, DVal.int IntKind.i64 0, DVal.int IntKind.i64 15] 2, DVal.int IntKind.u8 25, DVal.str [97, 98, 115], DVal.vslice [DVal.int IntKind.u8 68, DVal.int IntKind.i64 0, DVal.int IntKind.i64 15, DVal.int IntKind.u8 65, DVal.int IntKind.i64 0, DVal.int IntKind.i64 15] 2, DVal.int IntKind.u8 26, DVal.str [110, 111, 116], DVal.vslice [DVal.int IntKind.u8 68, DVal.int IntKind.i64 0, DVal.int IntKind.i64 15, DVal.int IntKind.u8 65, DVal.int IntKind.i64 0, DVal.int IntKind.i64 15] 2, DVal.int IntKind.u8 27, DVal.str [99, 104, 107], DVal.vslice [DVal.int IntKind.u8 65, DVal.int IntKind.i64 0, DVal.int IntKind.i64 15, DVal.int IntKind.u8 78, DVal.int IntKind.i64 (-9223372036854775808), DVal.int IntKind.i64 9223372036854775807, DVal.int IntKind.u8 77, DVal.int IntKind.i64 (-9223372036854775808), DVal.int IntKind.i64 9223372036854775807] 3, DVal.int IntKind.u8 28, DVal.str [99, 104, 107, 122], DVal.vslice [DVal.int IntKind.u8 65, DVal.int IntKind.i64 0, DVal.int IntKind.i64 15] 1, DVal.int IntKind.u8 29, DVal.str [106, 109, 112], DVal.vslice [DVal.int IntKind.u8 84, DVal.int IntKind.i64 0, DVal.int IntKind.i64 65535] 1, DVal.int IntKind.u8 30, DVal.str [106, 122], DVal.vslice [DVal.int IntKind.u8 65, DVal.int IntKind.i64 0, DVal.int IntKind.i64 15, DVal.int IntKind.u8 84, DVal.int IntKind.i64 0, DVal.int IntKind.i64 65535] 2, DVal.int IntKind.u8 31, DVal.str [106, 110, 122], DVal.vslice [DVal.int IntKind.u8 65, DVal.int IntKind.i64 0, DVal.int IntKind.i64 15, DVal.int IntKind.u8 84, DVal.int IntKind.i64 0, DVal.int IntKind.i64 65535] 2, DVal.int IntKind.u8 32, DVal.str [106, 116], DVal.vslice [DVal.int IntKind.u8 65, DVal.int IntKind.i64 0, DVal.int IntKind.i64 15, DVal.int IntKind.u8 78, DVal.int IntKind.i64 (-9223372036854775808), DVal.int IntKind.i64 9223372036854775807, DVal.int IntKind.u8 77, DVal.int IntKind.i64 1, DVal.int IntKind.i64 65536, DVal.int IntKind.u8 84, DVal.int IntKind.i64 0, DVal.int IntKind.i64 65535] 4, DVal.int IntKind.u8 33, DVal.str [114, 97, 105, 115, 101], DVal.vslice [DVal.int IntKind.u8 78, DVal.int IntKind.i64 1, DVal.int IntKind.i64 64] 1, DVal.int IntKind.u8 34, DVal.str [114, 97, 105, 115, 101, 114], DVal.vslice [DVal.int IntKind.u8 65, DVal.int IntKind.i64 0, DVal.int IntKind.i64 15] 1, DVal.int IntKind.u8 35, DVal.str [99, 111, 110, 116], DVal.vslice [DVal.int IntKind.u8 65, DVal.int IntKind.i64 0, DVal.int IntKind.i64 15] 1, DVal.int IntKind.u8 36, DVal.str [101, 120, 99], DVal.vslice [DVal.int IntKind.u8 68, DVal.int IntKind.i64 0, DVal.int IntKind.i64 15] 1, DVal.int IntKind.u8 37, DVal.str [109, 97, 114, 107], DVal.vslice [DVal.int IntKind.u8 78, DVal.int IntKind.i64 6, DVal.int IntKind.i64 7, DVal.int IntKind.u8 77, DVal.int IntKind.i64 0, DVal.int IntKind.i64 65535] 2, DVal.int IntKind.u8 38, DVal.str [103, 101, 116], DVal.vslice [DVal.int IntKind.u8 68, DVal.int IntKind.i64 0, DVal.int IntKind.i64 15] 1, DVal.int IntKind.u8 39, DVal.str [112, 117, 116], DVal.vslice [DVal.int IntKind.u8 65, DVal.int IntKind.i64 0, DVal.int IntKind.i64 15] 1, DVal.int IntKind.u8 40, DVal.str [100, 101, 102, 101, 114], DVal.vslice [] 0, DVal.int IntKind.u8 41, DVal.str [97, 108, 108, 111, 119], DVal.vslice [] 0, DVal.int IntKind.u8 42, DVal.str [99, 108, 111, 99, 107], DVal.vslice [DVal.int IntKind.u8 68, DVal.int IntKind.i64 0, DVal.int IntKind.i64 15] 1, DVal.int IntKind.u8 43, DVal.str [99, 111, 117, 110, 116], DVal.vslice [DVal.int IntKind.u8 68, DVal.int IntKind.i64 0, DVal.int IntKind.i64 15, DVal.int IntKind.u8 78, DVal.int IntKind.i64 0, DVal.int IntKind.i64 7, DVal.int IntKind.u8 77, DVal.int IntKind.i64 (-1), DVal.int IntKind.i64 31] 3, DVal.int IntKind.u8 44, DVal.str [115, 116, 97, 114, 116], DVal.vslice [DVal.int IntKind.u8 78, DVal.int IntKind.i64 0, DVal.int IntKind.i64 65535] 1, DVal.int IntKind.u8 45, DVal.str [110, 101, 118, 101, 114], DVal.vslice [DVal.int IntKind.u8 78, DVal.int IntKind.i64 0, DVal.int IntKind.i64 65535] 1, DVal.int IntKind.u8 46, DVal.str [97, 119, 97, 105, 116], DVal.vslice [DVal.int IntKind.u8 65, DVal.int IntKind.i64 0, DVal.int IntKind.i64 15, DVal.int IntKind.u8 78, DVal.int IntKind.i64 0, DVal.int IntKind.i64 65535] 2, DVal.int IntKind.u8 47, DVal.str [100, 101, 108, 97, 121], DVal.vslice [DVal.int IntKind.u8 65, DVal.int IntKind.i64 0, DVal.int IntKind.i64 15] 1, DVal.int IntKind.u8 48, DVal.str [117, 110, 116, 105, 108], DVal.vslice [DVal.int IntKind.u8 65, DVal.int IntKind.i64 0, DVal.int IntKind.i64 15] 1, DVal.int IntKind.u8 49, DVal.str [99, 97, 108, 108], DVal.vslice [DVal.int IntKind.u8 68, DVal.int IntKind.i64 0, DVal.int IntKind.i64 15, DVal.int IntKind.u8 65, DVal.int IntKind.i64 0, DVal.int IntKind.i64 31, DVal.int IntKind.u8 66, DVal.int IntKind.i64 0, DVal.int IntKind.i64 7, DVal.int IntKind.u8 78, DVal.int IntKind.i64 0, DVal.int IntKind.i64 4095, DVal.int IntKind.u8 77, DVal.int IntKind.i64 0, DVal.int IntKind.i64 3] 5, DVal.int IntKind.u8 50, DVal.str [115, 101, 108], DVal.vslice [DVal.int IntKind.u8 78, DVal.int IntKind.i64 0, DVal.int IntKind.i64 1023] 1, DVal.int IntKind.u8 51, DVal.str [100, 111, 110, 101], DVal.vslice [DVal.int IntKind.u8 78, DVal.int IntKind.i64 0, DVal.int IntKind.i64 1] 1, DVal.int IntKind.u8 52, DVal.str [114, 101, 113], DVal.vslice [DVal.int IntKind.u8 65, DVal.int IntKind.i64 0, DVal.int IntKind.i64 31, DVal.int IntKind.u8 66, DVal.int IntKind.i64 0, DVal.int IntKind.i64 7, DVal.int IntKind.u8 78, DVal.int IntKind.i64 0, DVal.int IntKind.i64 1, DVal.int IntKind.u8 84, DVal.int IntKind.i64 0, DVal.int IntKind.i64 65535] 4, DVal.int IntKind.u8 53, DVal.str [108, 111, 99, 107], DVal.vslice [DVal.int IntKind.u8 78, DVal.int IntKind.i64 0, DVal.int IntKind.i64 31] 1, DVal.int IntKind.u8 54, DVal.str [112, 101, 110, 116], DVal.vslice [DVal.int IntKind.u8 68, DVal.int IntKind.i64 0, DVal.int IntKind.i64 15, DVal.int IntKind.u8 65, DVal.int IntKind.i64 0, DVal.int IntKind.i64 15, DVal.int IntKind.u8 66, DVal.int IntKind.i64 0, DVal.int IntKind.i64 3, DVal.int IntKind.u8 78, DVal.int IntKind.i64 0, DVal.int IntKind.i64 31, DVal.int IntKind.u8 77, DVal.int IntKind.i64 0, DVal.int IntKind.i64 7] 5, DVal.int IntKind.u8 55, DVal.str [117, 110, 108, 111, 99, 107], DVal.vslice [DVal.int IntKind.u8 78, DVal.int IntKind.i64 0, DVal.int IntKind.i64 31] 1, DVal.int IntKind.u8 56, DVal.str [97, 98, 111, 114, 116], DVal.vslice [DVal.int IntKind.u8 78, DVal.int IntKind.i64 0, DVal.int IntKind.i64 65535] 1, DVal.int IntKind.u8 57, DVal.str [101, 110, 100], DVal.vslice [] 0] from rfl]
  simp only [List.flatMap_cons, List.flatMap_nil, DVal.cells, List.cons_append, List.nil_append]
  repeat (first | exact Thaws.nil _ _ | refine Thaws.cons (Thaw.plain rfl) ?_ | refine Thaws.cons Thaw.nil ?_ | refine Thaws.cons (t54.thaw (by simp only [List.mem_cons, true_or, or_true]) rfl) ?_)
end Go.Dl

-- Chapters 22, 30: Named of the reference.
namespace Go.Dl
open Go Go.Proofs
set_option maxRecDepth 10000

theorem rrT_name : rrT.map (·.2.1) = opT := by decide +kernel
theorem rrT_get {i : Nat} (h : i < 57) : ∃ h' : i < rrT.length, rrT[i].1 = (i : Int) + 1 := by
  refine ⟨by rw [rrT_length]; exact h, ?_⟩
  simp [rrT]
theorem rnamed_spec (G : Nat → DVal) (H : DHeap) (w : List UInt8) : DCalls Tryd.prog G 45 [.str w] H (DRet (.tuple [.int .u8 (namedC w), .bool (decide (1 ≤ namedC w))]) H) := by
  refine dcalls_intro Tryd.func45 Tryd.call45 rfl (by kernel_rfl) ?_
  simp (disch := omega) only [go_sem, Nat.reduceEqDiff, Nat.reduceAdd, Nat.reduceMul, Nat.reduceSub, Nat.reduceLeDiff, ↓reduceIte, reduceCtorEq, Int.reduceAdd, Int.reduceSub, Int.reduceMul, Int.reduceNeg, Int.reduceToNat, List.reduceReplicate, String.reduceEq]
  refine (rrows_spec G H).mono ?_
  rintro _ H ⟨rfl, rfl⟩
  simp (disch := omega) only [go_sem, Nat.reduceEqDiff, Nat.reduceAdd, Nat.reduceMul, Nat.reduceSub, Nat.reduceLeDiff, ↓reduceIte, reduceCtorEq, Int.reduceAdd, Int.reduceSub, Int.reduceMul, Int.reduceNeg, Int.reduceToNat, List.reduceReplicate, String.reduceEq]
  obtain ⟨I, hI⟩ : ∃ I : Nat → (Nat → DVal) → DHeap → Prop, ∀ i env heap, I i env heap ↔ (heap = H ∧ env 0 = .str w ∧ env 4 = .vslice (rrT.flatMap dRRow) 57 ∧ env 5 = dI i ∧ i ≤ 57 ∧ ∀ x ∈ opT.take i, decide (x = w) = false) := ⟨_, fun _ _ _ => Iff.rfl⟩
  refine DLoop.run I (fun i => 57 - i) 0 ((hI _ _ _).2 ?_) ?_
  · simp (disch := omega) only [go_sem, Nat.reduceEqDiff, Nat.reduceAdd, Nat.reduceMul, Nat.reduceSub, Nat.reduceLeDiff, ↓reduceIte, reduceCtorEq, Int.reduceAdd, Int.reduceSub, Int.reduceMul, Int.reduceNeg, Int.reduceToNat, List.reduceReplicate, String.reduceEq]
    (repeat' apply And.intro) <;> (try first | rfl | assumption | omega)
    simp
  · intro i env heap hi
    obtain ⟨rfl, e0, e4, e5, hi1, hn⟩ := (hI _ _ _).1 hi
    by_cases hlt : i < 57
    · obtain ⟨h1, h2⟩ := rrT_get hlt
      have g0 : (rrT.flatMap dRRow)[i * 3]? = (dRRow rrT[i])[0]? := flat_get dRRow_length rrT i h1 0 (by omega)
      have g1 := flat_get dRRow_length rrT i h1 1 (by omega)
      have ho : i < opT.length := by rw [opT_length]; exact hlt
      have hname : rrT[i].2.1 = opT[i] := by
        have := List.getElem_map (f := fun p : Int × List UInt8 × List (Int × Int × Int) => p.2.1) (l := rrT) (i := i) (h := by rw [List.length_map]; exact h1)
        exact this.symm.trans (List.getElem_of_eq rrT_name _)
      by_cases c : rrT[i].2.1 = w
      · have hd : decide (opT[i] = w) = true := decide_eq_true (hname ▸ c)
        have hid := idxF_at (p := fun n => decide (n = w)) ho hd hn
        have hnc : namedC w = (i : Int) + 1 := by rw [namedC, hid]
        simp (disch := omega) only [go_sem, Nat.reduceEqDiff, Nat.reduceAdd, Nat.reduceMul, Nat.reduceSub, Nat.reduceLeDiff, ↓reduceIte, reduceCtorEq, Int.reduceAdd, Int.reduceSub, Int.reduceMul, Int.reduceNeg, Int.reduceToNat, List.reduceReplicate, String.reduceEq, e0, e4, e5, flat_len dRRow_length, rrT_length, g0, g1, dRRow, c, h2]
        exact DFin.refl ⟨by rw [hnc]; try rw [decide_eq_true (p := (1 : Int) ≤ (i : Int) + 1) (by omega)], rfl⟩
      · simp (disch := omega) only [go_sem, Nat.reduceEqDiff, Nat.reduceAdd, Nat.reduceMul, Nat.reduceSub, Nat.reduceLeDiff, ↓reduceIte, reduceCtorEq, Int.reduceAdd, Int.reduceSub, Int.reduceMul, Int.reduceNeg, Int.reduceToNat, List.reduceReplicate, String.reduceEq, e0, e4, e5, flat_len dRRow_length, rrT_length, g0, g1, dRRow, c, h2]
        refine ⟨i + 1, _, GhostS.refl _, (hI _ _ _).2 ?_, by omega⟩
        simp (disch := omega) only [go_sem, Nat.reduceEqDiff, Nat.reduceAdd, Nat.reduceMul, Nat.reduceSub, Nat.reduceLeDiff, ↓reduceIte, reduceCtorEq, Int.reduceAdd, Int.reduceSub, Int.reduceMul, Int.reduceNeg, Int.reduceToNat, List.reduceReplicate, String.reduceEq, e0, e4, e5]
        (repeat' apply And.intro) <;> (try first | rfl | assumption | omega)
        all_goals exact take_next ho hn (decide_eq_false (hname ▸ c))
    · have : i = 57 := by omega
      subst this
      rw [List.take_of_length_le (by rw [opT_length]; omega)] at hn
      have hnc : namedC w = 0 := by rw [namedC, idxF_no hn]; rfl
      simp (disch := omega) only [go_sem, Nat.reduceEqDiff, Nat.reduceAdd, Nat.reduceMul, Nat.reduceSub, Nat.reduceLeDiff, ↓reduceIte, reduceCtorEq, Int.reduceAdd, Int.reduceSub, Int.reduceMul, Int.reduceNeg, Int.reduceToNat, List.reduceReplicate, String.reduceEq, e0, e4, e5]
      exact DFin.refl ⟨by rw [hnc]; try rfl, rfl⟩
end Go.Dl

-- Chapter 30: the default costs.
namespace Go.Dl
open Go Go.Proofs
set_option maxRecDepth 10000

def pairT : List (List UInt8 × Int) := opT.zip costT
def dPair (p : List UInt8 × Int) : List DVal := [.str p.1, dI p.2]
theorem dPair_length (p : List UInt8 × Int) : (dPair p).length = 2 := rfl
theorem pairT_length : pairT.length = 57 := rfl
set_option maxHeartbeats 4000000 in
theorem pairs_spec (G : Nat → DVal) (H : DHeap) : DCalls Tryd.prog G 51 [] H (DRet (.vslice (pairT.flatMap dPair) 57) H) := by
  have hf : dfill (placeA 2) (repl 57 [DVal.str [], DVal.int IntKind.i64 0]) [(0, DVal.agg [DVal.str [108, 105], DVal.int IntKind.i64 1]), (1, DVal.agg [DVal.str [109, 118], DVal.int IntKind.i64 1]), (2, DVal.agg [DVal.str [108, 100], DVal.int IntKind.i64 2]), (3, DVal.agg [DVal.str [115, 116], DVal.int IntKind.i64 2]), (4, DVal.agg [DVal.str [108, 100, 120], DVal.int IntKind.i64 3]), (5, DVal.agg [DVal.str [115, 116, 120], DVal.int IntKind.i64 3]), (6, DVal.agg [DVal.str [108, 100, 97], DVal.int IntKind.i64 3]), (7, DVal.agg [DVal.str [115, 116, 97], DVal.int IntKind.i64 3]), (8, DVal.agg [DVal.str [97, 100, 100], DVal.int IntKind.i64 1]), (9, DVal.agg [DVal.str [115, 117, 98], DVal.int IntKind.i64 1]), (10, DVal.agg [DVal.str [109, 117, 108], DVal.int IntKind.i64 3]), (11, DVal.agg [DVal.str [100, 105, 118], DVal.int IntKind.i64 10]), (12, DVal.agg [DVal.str [114, 101, 109], DVal.int IntKind.i64 10]), (13, DVal.agg [DVal.str [109, 111, 100], DVal.int IntKind.i64 10]), (14, DVal.agg [DVal.str [101, 113], DVal.int IntKind.i64 1]), (15, DVal.agg [DVal.str [110, 101], DVal.int IntKind.i64 1]), (16, DVal.agg [DVal.str [108, 116], DVal.int IntKind.i64 1]), (17, DVal.agg [DVal.str [108, 101], DVal.int IntKind.i64 1]), (18, DVal.agg [DVal.str [103, 116], DVal.int IntKind.i64 1]), (19, DVal.agg [DVal.str [103, 101], DVal.int IntKind.i64 1]), (20, DVal.agg [DVal.str [97, 110, 100], DVal.int IntKind.i64 1]), (21, DVal.agg [DVal.str [111, 114], DVal.int IntKind.i64 1]), (22, DVal.agg [DVal.str [120, 111, 114], DVal.int IntKind.i64 1]), (23, DVal.agg [DVal.str [110, 101, 103], DVal.int IntKind.i64 1]), (24, DVal.agg [DVal.str [97, 98, 115], DVal.int IntKind.i64 1]), (25, DVal.agg [DVal.str [110, 111, 116], DVal.int IntKind.i64 1]), (26, DVal.agg [DVal.str [99, 104, 107], DVal.int IntKind.i64 1]), (27, DVal.agg [DVal.str [99, 104, 107, 122], DVal.int IntKind.i64 1]), (28, DVal.agg [DVal.str [106, 109, 112], DVal.int IntKind.i64 1]), (29, DVal.agg [DVal.str [106, 122], DVal.int IntKind.i64 1]), (30, DVal.agg [DVal.str [106, 110, 122], DVal.int IntKind.i64 1]), (31, DVal.agg [DVal.str [106, 116], DVal.int IntKind.i64 2]), (32, DVal.agg [DVal.str [114, 97, 105, 115, 101], DVal.int IntKind.i64 5]), (33, DVal.agg [DVal.str [114, 97, 105, 115, 101, 114], DVal.int IntKind.i64 5]), (34, DVal.agg [DVal.str [99, 111, 110, 116], DVal.int IntKind.i64 3]), (35, DVal.agg [DVal.str [101, 120, 99], DVal.int IntKind.i64 1]), (36, DVal.agg [DVal.str [109, 97, 114, 107], DVal.int IntKind.i64 1]), (37, DVal.agg [DVal.str [103, 101, 116], DVal.int IntKind.i64 5]), (38, DVal.agg [DVal.str [112, 117, 116], DVal.int IntKind.i64 5]), (39, DVal.agg [DVal.str [100, 101, 102, 101, 114], DVal.int IntKind.i64 1]), (40, DVal.agg [DVal.str [97, 108, 108, 111, 119], DVal.int IntKind.i64 1]), (41, DVal.agg [DVal.str [99, 108, 111, 99, 107], DVal.int IntKind.i64 3]), (42, DVal.agg [DVal.str [99, 111, 117, 110, 116], DVal.int IntKind.i64 3]), (43, DVal.agg [DVal.str [115, 116, 97, 114, 116], DVal.int IntKind.i64 20]), (44, DVal.agg [DVal.str [110, 101, 118, 101, 114], DVal.int IntKind.i64 20]), (45, DVal.agg [DVal.str [97, 119, 97, 105, 116], DVal.int IntKind.i64 15]), (46, DVal.agg [DVal.str [100, 101, 108, 97, 121], DVal.int IntKind.i64 15]), (47, DVal.agg [DVal.str [117, 110, 116, 105, 108], DVal.int IntKind.i64 15]), (48, DVal.agg [DVal.str [99, 97, 108, 108], DVal.int IntKind.i64 30]), (49, DVal.agg [DVal.str [115, 101, 108], DVal.int IntKind.i64 30]), (50, DVal.agg [DVal.str [100, 111, 110, 101], DVal.int IntKind.i64 20]), (51, DVal.agg [DVal.str [114, 101, 113], DVal.int IntKind.i64 25]), (52, DVal.agg [DVal.str [108, 111, 99, 107], DVal.int IntKind.i64 8]), (53, DVal.agg [DVal.str [112, 101, 110, 116], DVal.int IntKind.i64 15]), (54, DVal.agg [DVal.str [117, 110, 108, 111, 99, 107], DVal.int IntKind.i64 12]), (55, DVal.agg [DVal.str [97, 98, 111, 114, 116], DVal.int IntKind.i64 30]), (56, DVal.agg [DVal.str [101, 110, 100], DVal.int IntKind.i64 10])] = some ([DVal.agg [DVal.str [108, 105], DVal.int IntKind.i64 1], DVal.agg [DVal.str [109, 118], DVal.int IntKind.i64 1], DVal.agg [DVal.str [108, 100], DVal.int IntKind.i64 2], DVal.agg [DVal.str [115, 116], DVal.int IntKind.i64 2], DVal.agg [DVal.str [108, 100, 120], DVal.int IntKind.i64 3], DVal.agg [DVal.str [115, 116, 120], DVal.int IntKind.i64 3], DVal.agg [DVal.str [108, 100, 97], DVal.int IntKind.i64 3], DVal.agg [DVal.str [115, 116, 97], DVal.int IntKind.i64 3], DVal.agg [DVal.str [97, 100, 100], DVal.int IntKind.i64 1], DVal.agg [DVal.str [115, 117, 98], DVal.int IntKind.i64 1], DVal.agg [DVal.str [109, 117, 108], DVal.int IntKind.i64 3], DVal.agg [DVal.str [100, 105, 118], DVal.int IntKind.i64 10], DVal.agg [DVal.str [114, 101, 109], DVal.int IntKind.i64 10], DVal.agg [DVal.str [109, 111, 100], DVal.int IntKind.i64 10], DVal.agg [DVal.str [101, 113], DVal.int IntKind.i64 1], DVal.agg [DVal.str [110, 101], DVal.int IntKind.i64 1], DVal.agg [DVal.str [108, 116], DVal.int IntKind.i64 1], DVal.agg [DVal.str [108, 101], DVal.int IntKind.i64 1], DVal.agg [DVal.str [103, 116], DVal.int IntKind.i64 1], DVal.agg [DVal.str [103, 101], DVal.int IntKind.i64 1], DVal.agg [DVal.str [97, 110, 100], DVal.int IntKind.i64 1], DVal.agg [DVal.str [111, 114], DVal.int IntKind.i64 1], DVal.agg [DVal.str [120, 111, 114], DVal.int IntKind.i64 1], DVal.agg [DVal.str [110, 101, 103], DVal.int IntKind.i64 1], DVal.agg [DVal.str [97, 98, 115], DVal.int IntKind.i64 1], DVal.agg [DVal.str [110, 111, 116], DVal.int IntKind.i64 1], DVal.agg [DVal.str [99, 104, 107], DVal.int IntKind.i64 1], DVal.agg [DVal.str [99, 104, 107, 122], DVal.int IntKind.i64 1], DVal.agg [DVal.str [106, 109, 112], DVal.int IntKind.i64 1], DVal.agg [DVal.str [106, 122], DVal.int IntKind.i64 1], DVal.agg [DVal.str [106, 110, 122], DVal.int IntKind.i64 1], DVal.agg [DVal.str [106, 116], DVal.int IntKind.i64 2], DVal.agg [DVal.str [114, 97, 105, 115, 101], DVal.int IntKind.i64 5], DVal.agg [DVal.str [114, 97, 105, 115, 101, 114], DVal.int IntKind.i64 5], DVal.agg [DVal.str [99, 111, 110, 116], DVal.int IntKind.i64 3], DVal.agg [DVal.str [101, 120, 99], DVal.int IntKind.i64 1], DVal.agg [DVal.str [109, 97, 114, 107], DVal.int IntKind.i64 1], DVal.agg [DVal.str [103, 101, 116], DVal.int IntKind.i64 5], DVal.agg [DVal.str [112, 117, 116], DVal.int IntKind.i64 5], DVal.agg [DVal.str [100, 101, 102, 101, 114], DVal.int IntKind.i64 1], DVal.agg [DVal.str [97, 108, 108, 111, 119], DVal.int IntKind.i64 1], DVal.agg [DVal.str [99, 108, 111, 99, 107], DVal.int IntKind.i64 3], DVal.agg [DVal.str [99, 111, 117, 110, 116], DVal.int IntKind.i64 3], DVal.agg [DVal.str [115, 116, 97, 114, 116], DVal.int IntKind.i64 20], DVal.agg [DVal.str [110, 101, 118, 101, 114], DVal.int IntKind.i64 20], DVal.agg [DVal.str [97, 119, 97, 105, 116], DVal.int IntKind.i64 15], DVal.agg [DVal.str [100, 101, 108, 97, 121], DVal.int IntKind.i64 15], DVal.agg [DVal.str [117, 110, 116, 105, 108], DVal.int IntKind.i64 15], DVal.agg [DVal.str [99, 97, 108, 108], DVal.int IntKind.i64 30], DVal.agg [DVal.str [115, 101, 108], DVal.int IntKind.i64 30], DVal.agg [DVal.str [100, 111, 110, 101], DVal.int IntKind.i64 20], DVal.agg [DVal.str [114, 101, 113], DVal.int IntKind.i64 25], DVal.agg [DVal.str [108, 111, 99, 107], DVal.int IntKind.i64 8], DVal.agg [DVal.str [112, 101, 110, 116], DVal.int IntKind.i64 15], DVal.agg [DVal.str [117, 110, 108, 111, 99, 107], DVal.int IntKind.i64 12], DVal.agg [DVal.str [97, 98, 111, 114, 116], DVal.int IntKind.i64 30], DVal.agg [DVal.str [101, 110, 100], DVal.int IntKind.i64 10]].flatMap DVal.cells) := dfill_seq 2 [DVal.agg [DVal.str [108, 105], DVal.int IntKind.i64 1], DVal.agg [DVal.str [109, 118], DVal.int IntKind.i64 1], DVal.agg [DVal.str [108, 100], DVal.int IntKind.i64 2], DVal.agg [DVal.str [115, 116], DVal.int IntKind.i64 2], DVal.agg [DVal.str [108, 100, 120], DVal.int IntKind.i64 3], DVal.agg [DVal.str [115, 116, 120], DVal.int IntKind.i64 3], DVal.agg [DVal.str [108, 100, 97], DVal.int IntKind.i64 3], DVal.agg [DVal.str [115, 116, 97], DVal.int IntKind.i64 3], DVal.agg [DVal.str [97, 100, 100], DVal.int IntKind.i64 1], DVal.agg [DVal.str [115, 117, 98], DVal.int IntKind.i64 1], DVal.agg [DVal.str [109, 117, 108], DVal.int IntKind.i64 3], DVal.agg [DVal.str [100, 105, 118], DVal.int IntKind.i64 10], DVal.agg [DVal.str [114, 101, 109], DVal.int IntKind.i64 10], DVal.agg [DVal.str [109, 111, 100], DVal.int IntKind.i64 10], DVal.agg [DVal.str [101, 113], DVal.int IntKind.i64 1], DVal.agg [DVal.str [110, 101], DVal.int IntKind.i64 1], DVal.agg [DVal.str [108, 116], DVal.int IntKind.i64 1], DVal.agg [DVal.str [108, 101], DVal.int IntKind.i64 1], DVal.agg [DVal.str [103, 116], DVal.int IntKind.i64 1], DVal.agg [DVal.str [103, 101], DVal.int IntKind.i64 1], DVal.agg [DVal.str [97, 110, 100], DVal.int IntKind.i64 1], DVal.agg [DVal.str [111, 114], DVal.int IntKind.i64 1], DVal.agg [DVal.str [120, 111, 114], DVal.int IntKind.i64 1], DVal.agg [DVal.str [110, 101, 103], DVal.int IntKind.i64 1], DVal.agg [DVal.str [97, 98, 115], DVal.int IntKind.i64 1], DVal.agg [DVal.str [110, 111, 116], DVal.int IntKind.i64 1], DVal.agg [DVal.str [99, 104, 107], DVal.int IntKind.i64 1], DVal.agg [DVal.str [99, 104, 107, 122], DVal.int IntKind.i64 1], DVal.agg [DVal.str [106, 109, 112], DVal.int IntKind.i64 1], DVal.agg [DVal.str [106, 122], DVal.int IntKind.i64 1], DVal.agg [DVal.str [106, 110, 122], DVal.int IntKind.i64 1], DVal.agg [DVal.str [106, 116], DVal.int IntKind.i64 2], DVal.agg [DVal.str [114, 97, 105, 115, 101], DVal.int IntKind.i64 5], DVal.agg [DVal.str [114, 97, 105, 115, 101, 114], DVal.int IntKind.i64 5], DVal.agg [DVal.str [99, 111, 110, 116], DVal.int IntKind.i64 3], DVal.agg [DVal.str [101, 120, 99], DVal.int IntKind.i64 1], DVal.agg [DVal.str [109, 97, 114, 107], DVal.int IntKind.i64 1], DVal.agg [DVal.str [103, 101, 116], DVal.int IntKind.i64 5], DVal.agg [DVal.str [112, 117, 116], DVal.int IntKind.i64 5], DVal.agg [DVal.str [100, 101, 102, 101, 114], DVal.int IntKind.i64 1], DVal.agg [DVal.str [97, 108, 108, 111, 119], DVal.int IntKind.i64 1], DVal.agg [DVal.str [99, 108, 111, 99, 107], DVal.int IntKind.i64 3], DVal.agg [DVal.str [99, 111, 117, 110, 116], DVal.int IntKind.i64 3], DVal.agg [DVal.str [115, 116, 97, 114, 116], DVal.int IntKind.i64 20], DVal.agg [DVal.str [110, 101, 118, 101, 114], DVal.int IntKind.i64 20], DVal.agg [DVal.str [97, 119, 97, 105, 116], DVal.int IntKind.i64 15], DVal.agg [DVal.str [100, 101, 108, 97, 121], DVal.int IntKind.i64 15], DVal.agg [DVal.str [117, 110, 116, 105, 108], DVal.int IntKind.i64 15], DVal.agg [DVal.str [99, 97, 108, 108], DVal.int IntKind.i64 30], DVal.agg [DVal.str [115, 101, 108], DVal.int IntKind.i64 30], DVal.agg [DVal.str [100, 111, 110, 101], DVal.int IntKind.i64 20], DVal.agg [DVal.str [114, 101, 113], DVal.int IntKind.i64 25], DVal.agg [DVal.str [108, 111, 99, 107], DVal.int IntKind.i64 8], DVal.agg [DVal.str [112, 101, 110, 116], DVal.int IntKind.i64 15], DVal.agg [DVal.str [117, 110, 108, 111, 99, 107], DVal.int IntKind.i64 12], DVal.agg [DVal.str [97, 98, 111, 114, 116], DVal.int IntKind.i64 30], DVal.agg [DVal.str [101, 110, 100], DVal.int IntKind.i64 10]] [] _ 0 rfl (by simp [DVal.cells]) rfl
  refine dcalls_intro Tryd.func51 Tryd.call51 rfl (by kernel_rfl) ?_
  simp (maxSteps := 4000000) (disch := omega) only [go_sem, Nat.reduceEqDiff, Nat.reduceAdd, Nat.reduceMul, Nat.reduceSub, Nat.reduceLeDiff, ↓reduceIte, reduceCtorEq, Int.reduceAdd, Int.reduceSub, Int.reduceMul, Int.reduceNeg, Int.reduceToNat, List.reduceReplicate, String.reduceEq, dfillS, hf]
  intro r hr; dsimp only at hr
  simp (disch := omega) only [go_sem, Nat.reduceEqDiff, Nat.reduceAdd, Nat.reduceMul, Nat.reduceSub, Nat.reduceLeDiff, ↓reduceIte, reduceCtorEq, Int.reduceAdd, Int.reduceSub, Int.reduceMul, Int.reduceNeg, Int.reduceToNat, List.reduceReplicate, String.reduceEq]
  rw [show [DVal.agg [DVal.str [108, 105], DVal.int IntKind.i64 1], DVal.agg [DVal.str [109, 118], DVal.int IntKind.i64 1], DVal.agg [DVal.str [108, 100], DVal.int IntKind.i64 2], DVal.agg [DVal.str [115, 116], DVal.int IntKind.i64 2], DVal.agg [DVal.str [108, 100, 120], DVal.int IntKind.i64 3], DVal.agg [DVal.str [115, 116, 120], DVal.int IntKind.i64 3], DVal.agg [DVal.str [108, 100, 97], DVal.int IntKind.i64 3], DVal.agg [DVal.str [115, 116, 97], DVal.int IntKind.i64 3], DVal.agg [DVal.str [97, 100, 100], DVal.int IntKind.i64 1], DVal.agg [DVal.str [115, 117, 98], DVal.int IntKind.i64 1], DVal.agg [DVal.str [109, 117, 108], DVal.int IntKind.i64 3], DVal.agg [DVal.str [100, 105, 118], DVal.int IntKind.i64 10], DVal.agg [DVal.str [114, 101, 109], DVal.int IntKind.i64 10], DVal.agg [DVal.str [109, 111, 100], DVal.int IntKind.i64 10], DVal.agg [DVal.str [101, 113], DVal.int IntKind.i64 1], DVal.agg [DVal.str [110, 101], DVal.int IntKind.i64 1], DVal.agg [DVal.str [108, 116], DVal.int IntKind.i64 1], DVal.agg [DVal.str [108, 101], DVal.int IntKind.i64 1], DVal.agg [DVal.str [103, 116], DVal.int IntKind.i64 1], DVal.agg [DVal.str [103, 101], DVal.int IntKind.i64 1], DVal.agg [DVal.str [97, 110, 100], DVal.int IntKind.i64 1], DVal.agg [DVal.str [111, 114], DVal.int IntKind.i64 1], DVal.agg [DVal.str [120, 111, 114], DVal.int IntKind.i64 1], DVal.agg [DVal.str [110, 101, 103], DVal.int IntKind.i64 1], DVal.agg [DVal.str [97, 98, 115], DVal.int IntKind.i64 1], DVal.agg [DVal.str [110, 111, 116], DVal.int IntKind.i64 1], DVal.agg [DVal.str [99, 104, 107], DVal.int IntKind.i64 1], DVal.agg [DVal.str [99, 104, 107, 122], DVal.int IntKind.i64 1], DVal.agg [DVal.str [106, 109, 112], DVal.int IntKind.i64 1], DVal.agg [DVal.str [106, 122], DVal.int IntKind.i64 1], DVal.agg [DVal.str [106, 110, 122], DVal.int IntKind.i64 1], DVal.agg [DVal.str [106, 116], DVal.int IntKind.i64 2], DVal.agg [DVal.str [114, 97, 105, 115, 101], DVal.int IntKind.i64 5], DVal.agg [DVal.str [114, 97, 105, 115, 101, 114], DVal.int IntKind.i64 5], DVal.agg [DVal.str [99, 111, 110, 116], DVal.int IntKind.i64 3], DVal.agg [DVal.str [101, 120, 99], DVal.int IntKind.i64 1], DVal.agg [DVal.str [109, 97, 114, 107], DVal.int IntKind.i64 1], DVal.agg [DVal.str [103, 101, 116], DVal.int IntKind.i64 5], DVal.agg [DVal.str [112, 117, 116], DVal.int IntKind.i64 5], DVal.agg [DVal.str [100, 101, 102, 101, 114], DVal.int IntKind.i64 1], DVal.agg [DVal.str [97, 108, 108, 111, 119], DVal.int IntKind.i64 1], DVal.agg [DVal.str [99, 108, 111, 99, 107], DVal.int IntKind.i64 3], DVal.agg [DVal.str [99, 111, 117, 110, 116], DVal.int IntKind.i64 3], DVal.agg [DVal.str [115, 116, 97, 114, 116], DVal.int IntKind.i64 20], DVal.agg [DVal.str [110, 101, 118, 101, 114], DVal.int IntKind.i64 20], DVal.agg [DVal.str [97, 119, 97, 105, 116], DVal.int IntKind.i64 15], DVal.agg [DVal.str [100, 101, 108, 97, 121], DVal.int IntKind.i64 15], DVal.agg [DVal.str [117, 110, 116, 105, 108], DVal.int IntKind.i64 15], DVal.agg [DVal.str [99, 97, 108, 108], DVal.int IntKind.i64 30], DVal.agg [DVal.str [115, 101, 108], DVal.int IntKind.i64 30], DVal.agg [DVal.str [100, 111, 110, 101], DVal.int IntKind.i64 20], DVal.agg [DVal.str [114, 101, 113], DVal.int IntKind.i64 25], DVal.agg [DVal.str [108, 111, 99, 107], DVal.int IntKind.i64 8], DVal.agg [DVal.str [112, 101, 110, 116], DVal.int IntKind.i64 15], DVal.agg [DVal.str [117, 110, 108, 111, 99, 107], DVal.int IntKind.i64 12], DVal.agg [DVal.str [97, 98, 111, 114, 116], DVal.int IntKind.i64 30], DVal.agg [DVal.str [101, 110, 100], DVal.int IntKind.i64 10]].flatMap DVal.cells = pairT.flatMap dPair from rfl]
  refine DFin.fzA r hr ?_
  simp (disch := omega) only [go_sem, Nat.reduceEqDiff, Nat.reduceAdd, Nat.reduceMul, Nat.reduceSub, Nat.reduceLeDiff, ↓reduceIte, reduceCtorEq, Int.reduceAdd, Int.reduceSub, Int.reduceMul, Int.reduceNeg, Int.reduceToNat, List.reduceReplicate, String.reduceEq, List.drop_zero]
  refine DFin.refl ⟨?_, rfl⟩
  rw [List.take_of_length_le (by rw [flat_len dPair_length, pairT_length]; omega)]

theorem default_spec {G : Nat → DVal} (hG : G 0 = .vptr (defC.map dI) 0) (H : DHeap) : DCalls Tryd.prog G 20 [] H (DRet (dCs defC) H) := by
  have hl : (defC.map dI).length = 58 := rfl
  have ht : (defC.map dI).take 58 = defC.map dI := rfl
  refine dcalls_intro Tryd.func20 Tryd.call20 rfl (by kernel_rfl) ?_
  simp (disch := omega) only [go_sem, Nat.reduceEqDiff, Nat.reduceAdd, Nat.reduceMul, Nat.reduceSub, Nat.reduceLeDiff, ↓reduceIte, reduceCtorEq, Int.reduceAdd, Int.reduceSub, Int.reduceMul, Int.reduceNeg, Int.reduceToNat, List.reduceReplicate, String.reduceEq, hG]
  intro r hr; dsimp only at hr
  simp (disch := omega) only [go_sem, Nat.reduceEqDiff, Nat.reduceAdd, Nat.reduceMul, Nat.reduceSub, Nat.reduceLeDiff, ↓reduceIte, reduceCtorEq, Int.reduceAdd, Int.reduceSub, Int.reduceMul, Int.reduceNeg, Int.reduceToNat, List.reduceReplicate, String.reduceEq, hG, hl, ht]
  rw [List.append_nil, if_pos (by omega), ht]
  exact DFin.dropA r hr (DFin.refl ⟨rfl, rfl⟩)

/-- The default costs, the first i operations. -/
def defI (i : Nat) : List Int := defC.take (i + 1) ++ List.replicate (57 - i) 0
theorem splice_setA {α : Type} (f : α → DVal) (l : List α) (e : Nat) (x : α) (h : e < l.length) : splice (l.map f) e [f x] = (l.set e x).map f := by
  unfold splice
  rw [List.set_eq_take_append_cons_drop, if_pos h]
  simp
theorem defI_length {i : Nat} (h : i ≤ 57) : (defI i).length = 58 := by rw [defI, List.length_append, List.length_take, defC_length, List.length_replicate]; omega
theorem defI_set {i : Nat} (h : i < 57) : (defI i).set (i + 1) (costT.getD i 0) = defI (i + 1) := by
  have : ∀ i : Fin 57, (defI i).set (i + 1) (costT.getD i 0) = defI (i + 1) := by decide +kernel
  exact this ⟨i, h⟩
theorem pair_at {i : Nat} (h : i < 57) : ∃ h' : i < pairT.length, pairT[i] = (nameC (i + 1), costT.getD i 0) := by
  refine ⟨by rw [pairT_length]; exact h, ?_⟩
  have : ∀ i : Fin 57, pairT.getD i ([], 0) = (nameC (i + 1), costT.getD i 0) := by decide +kernel
  have := this ⟨i, h⟩
  rw [List.getD, List.getElem?_eq_getElem (by rw [pairT_length]; exact h)] at this
  exact this
theorem rdefault_spec (G : Nat → DVal) (H : DHeap) : DCalls Tryd.prog G 21 [] H (DRet (dCs defC) H) := by
  refine dcalls_intro Tryd.func21 Tryd.call21 rfl (by kernel_rfl) ?_
  simp (disch := omega) only [go_sem, Nat.reduceEqDiff, Nat.reduceAdd, Nat.reduceMul, Nat.reduceSub, Nat.reduceLeDiff, ↓reduceIte, reduceCtorEq, Int.reduceAdd, Int.reduceSub, Int.reduceMul, Int.reduceNeg, Int.reduceToNat, List.reduceReplicate, String.reduceEq]
  have hz : [DVal.int IntKind.i64 0, DVal.int IntKind.i64 0, DVal.int IntKind.i64 0, DVal.int IntKind.i64 0, DVal.int IntKind.i64 0, DVal.int IntKind.i64 0, DVal.int IntKind.i64 0, DVal.int IntKind.i64 0, DVal.int IntKind.i64 0, DVal.int IntKind.i64 0, DVal.int IntKind.i64 0, DVal.int IntKind.i64 0, DVal.int IntKind.i64 0, DVal.int IntKind.i64 0, DVal.int IntKind.i64 0, DVal.int IntKind.i64 0, DVal.int IntKind.i64 0, DVal.int IntKind.i64 0, DVal.int IntKind.i64 0, DVal.int IntKind.i64 0, DVal.int IntKind.i64 0, DVal.int IntKind.i64 0, DVal.int IntKind.i64 0, DVal.int IntKind.i64 0, DVal.int IntKind.i64 0, DVal.int IntKind.i64 0, DVal.int IntKind.i64 0, DVal.int IntKind.i64 0, DVal.int IntKind.i64 0, DVal.int IntKind.i64 0, DVal.int IntKind.i64 0, DVal.int IntKind.i64 0, DVal.int IntKind.i64 0, DVal.int IntKind.i64 0, DVal.int IntKind.i64 0, DVal.int IntKind.i64 0, DVal.int IntKind.i64 0, DVal.int IntKind.i64 0, DVal.int IntKind.i64 0, DVal.int IntKind.i64 0, DVal.int IntKind.i64 0, DVal.int IntKind.i64 0, DVal.int IntKind.i64 0, DVal.int IntKind.i64 0, DVal.int IntKind.i64 0, DVal.int IntKind.i64 0, DVal.int IntKind.i64 0, DVal.int IntKind.i64 0, DVal.int IntKind.i64 0, DVal.int IntKind.i64 0, DVal.int IntKind.i64 0, DVal.int IntKind.i64 0, DVal.int IntKind.i64 0, DVal.int IntKind.i64 0, DVal.int IntKind.i64 0, DVal.int IntKind.i64 0, DVal.int IntKind.i64 0, DVal.int IntKind.i64 0] = (defI 0).map dI := rfl
  rw [hz]
  intro r hr; dsimp only at hr
  simp (disch := omega) only [go_sem, Nat.reduceEqDiff, Nat.reduceAdd, Nat.reduceMul, Nat.reduceSub, Nat.reduceLeDiff, ↓reduceIte, reduceCtorEq, Int.reduceAdd, Int.reduceSub, Int.reduceMul, Int.reduceNeg, Int.reduceToNat, List.reduceReplicate, String.reduceEq, hz]
  intro r1 hr1; dsimp only at hr1
  have e1 : ¬ r = r1 := fun e => by subst e; simp [upd] at hr1
  have e2 : ¬ r1 = r := fun e => e1 e.symm
  have hl0 : ((defI 0).map dI).length = 58 := rfl
  have ht0 : ((defI 0).map dI).take 58 = (defI 0).map dI := rfl
  have hd0 : ((defI 0).map dI).drop 58 = [] := rfl
  have ha0 : ((defI 0).map dI).all (fun d => d.one) = true := rfl
  have hr1' : H r1 = none := Sub.lo (by repeat (first | exact Sub.refl _ | assumption | refine Sub.up ?_ (by assumption) _)) hr1
  simp (disch := omega) only [go_sem, Nat.reduceEqDiff, Nat.reduceAdd, Nat.reduceMul, Nat.reduceSub, Nat.reduceLeDiff, ↓reduceIte, reduceCtorEq, Int.reduceAdd, Int.reduceSub, Int.reduceMul, Int.reduceNeg, Int.reduceToNat, List.reduceReplicate, String.reduceEq, e1, e2, hz, hl0, ht0, hd0, ha0, List.append_nil]
  refine (pairs_spec G _).mono ?_
  rintro _ H ⟨rfl, rfl⟩
  simp (disch := omega) only [go_sem, Nat.reduceEqDiff, Nat.reduceAdd, Nat.reduceMul, Nat.reduceSub, Nat.reduceLeDiff, ↓reduceIte, reduceCtorEq, Int.reduceAdd, Int.reduceSub, Int.reduceMul, Int.reduceNeg, Int.reduceToNat, List.reduceReplicate, String.reduceEq]
  obtain ⟨I, hI⟩ : ∃ I : Nat → (Nat → DVal) → DHeap → Prop, ∀ i env heap, I i env heap ↔ (heap = upd (upd H r (some (DObj.cells ((defI 0).map dI) 23))) r1 (some (DObj.cells ((defI i).map dI) 23)) ∧ env 0 = .optr r 0 ∧ env 1 = .optr r1 0 ∧ env 2 = .vslice (pairT.flatMap dPair) 57 ∧ env 3 = dI i ∧ i ≤ 57) := ⟨_, fun _ _ _ => Iff.rfl⟩
  refine DLoop.run I (fun i => 57 - i) 0 ((hI _ _ _).2 ?_) ?_
  · simp (disch := omega) only [go_sem, Nat.reduceEqDiff, Nat.reduceAdd, Nat.reduceMul, Nat.reduceSub, Nat.reduceLeDiff, ↓reduceIte, reduceCtorEq, Int.reduceAdd, Int.reduceSub, Int.reduceMul, Int.reduceNeg, Int.reduceToNat, List.reduceReplicate, String.reduceEq]
    (repeat' apply And.intro) <;> (try first | rfl | assumption | omega)
  · intro i env heap hi
    obtain ⟨rfl, e0, e1', e2', e3', hi1⟩ := (hI _ _ _).1 hi
    by_cases hlt : i < 57
    · obtain ⟨h1, h2⟩ := pair_at hlt
      have g0 : (pairT.flatMap dPair)[i * 2]? = (dPair pairT[i])[0]? := flat_get dPair_length pairT i h1 0 (by omega)
      have g1 : (pairT.flatMap dPair)[i * 2 + 1]? = (dPair pairT[i])[1]? := flat_get dPair_length pairT i h1 1 (by omega)
      have hn := namedC_name (o := i + 1) (by omega) (by omega)
      rw [h2] at g0 g1
      simp (disch := omega) only [go_sem, Nat.reduceEqDiff, Nat.reduceAdd, Nat.reduceMul, Nat.reduceSub, Nat.reduceLeDiff, ↓reduceIte, reduceCtorEq, Int.reduceAdd, Int.reduceSub, Int.reduceMul, Int.reduceNeg, Int.reduceToNat, List.reduceReplicate, String.reduceEq, e0, e1', e2', e3', flat_len dPair_length, pairT_length, g0, g1, dPair]
      refine (rnamed_spec G _ (nameC (i + 1))).mono ?_
      rintro _ H1 ⟨rfl, rfl⟩
      have hli := defI_length hi1
      have hset := splice_setA dI (defI i) (i + 1) (costT.getD i 0) (by omega)
      rw [defI_set hlt] at hset
      have hnn : (((i + 1 : Nat) : Int)).toNat = i + 1 := by omega
      simp (disch := omega) only [go_sem, Nat.reduceEqDiff, Nat.reduceAdd, Nat.reduceMul, Nat.reduceSub, Nat.reduceLeDiff, ↓reduceIte, reduceCtorEq, Int.reduceAdd, Int.reduceSub, Int.reduceMul, Int.reduceNeg, Int.reduceToNat, List.reduceReplicate, String.reduceEq, e0, e1', e2', e3', flat_len dPair_length, pairT_length, g0, g1, dPair, hn, e1, e2, List.length_map, hli, hset, hnn]
      refine ⟨i + 1, _, GhostS.refl _, (hI _ _ _).2 ?_, by omega⟩
      simp (disch := omega) only [go_sem, Nat.reduceEqDiff, Nat.reduceAdd, Nat.reduceMul, Nat.reduceSub, Nat.reduceLeDiff, ↓reduceIte, reduceCtorEq, Int.reduceAdd, Int.reduceSub, Int.reduceMul, Int.reduceNeg, Int.reduceToNat, List.reduceReplicate, String.reduceEq, e0, e1', e2', e3']
      (repeat' apply And.intro) <;> (try first | rfl | assumption | omega)
    · have : i = 57 := by omega
      subst this
      have hd : (defI 57).map dI = defC.map dI := rfl
      have hl : (defC.map dI).length = 58 := rfl
      have ht : (defC.map dI).take 58 = defC.map dI := rfl
      have ha : (defC.map dI).all (fun d => d.one) = true := rfl
      have hdr : ((defI 0).map dI).drop 58 = [] := rfl
      simp (disch := omega) only [go_sem, Nat.reduceEqDiff, Nat.reduceAdd, Nat.reduceMul, Nat.reduceSub, Nat.reduceLeDiff, ↓reduceIte, reduceCtorEq, Int.reduceAdd, Int.reduceSub, Int.reduceMul, Int.reduceNeg, Int.reduceToNat, List.reduceReplicate, String.reduceEq, e0, e1', e2', e3', hd, hl, ht, ha, e1, e2, hl0, hdr, List.append_nil]
      exact DFin.sub (show Sub H _ from (by repeat (first | exact Sub.refl _ | assumption | refine Sub.up ?_ (by assumption) _))) (DFin.refl ⟨rfl, rfl⟩)
end Go.Dl

-- Chapters 22, 30: Find, Int, Words of the reference.
namespace Go.Dl
open Go Go.Proofs
set_option maxRecDepth 10000

/-- The reference's row of an operation. -/
def rrAt (o : Int) : Int × List UInt8 × List (Int × Int × Int) := if isO o then rrT.getD (o.toNat - 1) (0, [], []) else (0, [], [])
theorem rrAt_out {o : Int} (h : isO o = false) : rrAt o = (0, [], []) := by rw [rrAt, h]; rfl
theorem rrAt_at {i : Nat} (h : i < 57) : rrAt ((i : Int) + 1) = ((i : Int) + 1, nameC (i + 1), fieldsI ((i : Int) + 1)) := by
  have : ∀ i : Fin 57, rrAt ((i.val : Int) + 1) = ((i.val : Int) + 1, nameC (i.val + 1), fieldsI ((i.val : Int) + 1)) := by decide +kernel
  exact this ⟨i, h⟩
theorem rrAt_get {i : Nat} (h : i < 57) (h' : i < rrT.length) : rrT[i] = rrAt ((i : Int) + 1) := by
  rw [rrAt, if_pos (by simp [isO]; omega), show ((i : Int) + 1).toNat - 1 = i by omega, List.getD, List.getElem?_eq_getElem h']; rfl
theorem isO_in {o : Int} (h : isO o = true) : ∃ i : Nat, i < 57 ∧ o = (i : Int) + 1 := by
  simp [isO] at h
  exact ⟨o.toNat - 1, by omega, by omega⟩
theorem rfind_spec (G : Nat → DVal) (H : DHeap) (o : Int) (h0 : 0 ≤ o) (h1 : o < 256) : DCalls Tryd.prog G 37 [.int .u8 o] H (DRet (.tuple [.agg (dRRow (rrAt o)), .bool (isO o)]) H) := by
  refine dcalls_intro Tryd.func37 Tryd.call37 rfl (by kernel_rfl) ?_
  simp (disch := omega) only [go_sem, Nat.reduceEqDiff, Nat.reduceAdd, Nat.reduceMul, Nat.reduceSub, Nat.reduceLeDiff, ↓reduceIte, reduceCtorEq, Int.reduceAdd, Int.reduceSub, Int.reduceMul, Int.reduceNeg, Int.reduceToNat, List.reduceReplicate, String.reduceEq]
  intro r hr; dsimp only at hr
  simp (disch := omega) only [go_sem, Nat.reduceEqDiff, Nat.reduceAdd, Nat.reduceMul, Nat.reduceSub, Nat.reduceLeDiff, ↓reduceIte, reduceCtorEq, Int.reduceAdd, Int.reduceSub, Int.reduceMul, Int.reduceNeg, Int.reduceToNat, List.reduceReplicate, String.reduceEq]
  refine (rrows_spec G _).mono ?_
  rintro _ H ⟨rfl, rfl⟩
  simp (disch := omega) only [go_sem, Nat.reduceEqDiff, Nat.reduceAdd, Nat.reduceMul, Nat.reduceSub, Nat.reduceLeDiff, ↓reduceIte, reduceCtorEq, Int.reduceAdd, Int.reduceSub, Int.reduceMul, Int.reduceNeg, Int.reduceToNat, List.reduceReplicate, String.reduceEq]
  obtain ⟨I, hI⟩ : ∃ I : Nat → (Nat → DVal) → DHeap → Prop, ∀ i env heap, I i env heap ↔ (heap = upd H r (some (DObj.cells [.int .u8 0, .str [], .nilSlice] 65)) ∧ env 0 = .int .u8 o ∧ env 2 = .optr r 0 ∧ env 4 = .vslice (rrT.flatMap dRRow) 57 ∧ env 5 = dI i ∧ i ≤ 57 ∧ ¬ (1 ≤ o ∧ o ≤ i)) := ⟨_, fun _ _ _ => Iff.rfl⟩
  refine DLoop.run I (fun i => 57 - i) 0 ((hI _ _ _).2 ?_) ?_
  · simp (disch := omega) only [go_sem, Nat.reduceEqDiff, Nat.reduceAdd, Nat.reduceMul, Nat.reduceSub, Nat.reduceLeDiff, ↓reduceIte, reduceCtorEq, Int.reduceAdd, Int.reduceSub, Int.reduceMul, Int.reduceNeg, Int.reduceToNat, List.reduceReplicate, String.reduceEq]
    (repeat' apply And.intro) <;> (try first | rfl | assumption | omega)
  · intro i env heap hi
    obtain ⟨rfl, e0, e2, e4, e5, hi1, hn⟩ := (hI _ _ _).1 hi
    by_cases hlt : i < 57
    · obtain ⟨h1', h2⟩ := rrT_get hlt
      have g0 : (rrT.flatMap dRRow)[i * 3]? = (dRRow rrT[i])[0]? := flat_get dRRow_length rrT i h1' 0 (by omega)
      have gr := flat_el dRRow_length rrT i h1'
      by_cases c : (i : Int) + 1 = o
      · simp (disch := omega) only [go_sem, Nat.reduceEqDiff, Nat.reduceAdd, Nat.reduceMul, Nat.reduceSub, Nat.reduceLeDiff, ↓reduceIte, reduceCtorEq, Int.reduceAdd, Int.reduceSub, Int.reduceMul, Int.reduceNeg, Int.reduceToNat, List.reduceReplicate, String.reduceEq, e0, e2, e4, e5, flat_len dRRow_length, rrT_length, g0, gr, dRRow, h2, c, List.drop_succ_cons, List.drop_nil, List.append_nil, List.drop_zero]
        refine DFin.dropA r hr (DFin.refl ⟨?_, rfl⟩)
        have ho : isO o = true := by simp [isO]; omega
        have hrr : rrT[i].2 = (rrAt o).2 := by rw [rrAt_get hlt, c]
        have hrr1 : (rrAt o).1 = o := by rw [← c, rrAt_at hlt]
        rw [ho, hrr, hrr1]
      · simp (disch := omega) only [go_sem, Nat.reduceEqDiff, Nat.reduceAdd, Nat.reduceMul, Nat.reduceSub, Nat.reduceLeDiff, ↓reduceIte, reduceCtorEq, Int.reduceAdd, Int.reduceSub, Int.reduceMul, Int.reduceNeg, Int.reduceToNat, List.reduceReplicate, String.reduceEq, e0, e2, e4, e5, flat_len dRRow_length, rrT_length, g0, dRRow, h2, c]
        refine ⟨i + 1, _, GhostS.refl _, (hI _ _ _).2 ?_, by omega⟩
        simp (disch := omega) only [go_sem, Nat.reduceEqDiff, Nat.reduceAdd, Nat.reduceMul, Nat.reduceSub, Nat.reduceLeDiff, ↓reduceIte, reduceCtorEq, Int.reduceAdd, Int.reduceSub, Int.reduceMul, Int.reduceNeg, Int.reduceToNat, List.reduceReplicate, String.reduceEq, e0, e2, e4, e5]
        (repeat' apply And.intro) <;> (try first | rfl | assumption | omega)
    · have : i = 57 := by omega
      subst this
      have ho : isO o = false := by
        cases h : isO o with
        | false => rfl
        | true => simp [isO] at h; exact absurd h (by omega)
      simp (disch := omega) only [go_sem, Nat.reduceEqDiff, Nat.reduceAdd, Nat.reduceMul, Nat.reduceSub, Nat.reduceLeDiff, ↓reduceIte, reduceCtorEq, Int.reduceAdd, Int.reduceSub, Int.reduceMul, Int.reduceNeg, Int.reduceToNat, List.reduceReplicate, String.reduceEq, e0, e2, e4, e5, List.drop_succ_cons, List.drop_nil, List.append_nil, List.drop_zero]
      refine DFin.dropA r hr (DFin.le (v' := .tuple [.agg (dRRow (rrAt o)), .bool (isO o)]) ?_ (DFin.refl ⟨rfl, rfl⟩))
      rw [rrAt_out ho, ho]
      exact DLe.tuple (.cons (.agg (.cons (.refl _) (.cons (.refl _) (.cons .nil .nil)))) (.refl _))

theorem itoa_abs (n : Int) : Lib.itoa n = if n < 0 then 45 :: Lib.decDigits n.natAbs else Lib.decDigits n.natAbs := by
  unfold Lib.itoa
  split
  · rfl
  · rw [show n.toNat = n.natAbs by omega]
theorem rint_spec (G : Nat → DVal) (H : DHeap) (n : Int) (h : I64 n) : DCalls Tryd.prog G 55 [dI n] H (DRet (.str (Lib.itoa n)) H) := by
  obtain ⟨h1, h2⟩ := h
  refine dcalls_intro Tryd.func55 Tryd.call55 rfl (by kernel_rfl) ?_
  by_cases c : n < 0
  · have hw : IntKind.u64.wrap (0 - IntKind.u64.wrap n) = (n.natAbs : Int) := by rw [IntKind.wrap_u64, IntKind.wrap_u64]; omega
    simp (disch := omega) only [go_sem, Nat.reduceEqDiff, Nat.reduceAdd, Nat.reduceMul, Nat.reduceSub, Nat.reduceLeDiff, ↓reduceIte, reduceCtorEq, Int.reduceAdd, Int.reduceSub, Int.reduceMul, Int.reduceNeg, Int.reduceToNat, List.reduceReplicate, String.reduceEq, hw]
    obtain ⟨I, hI⟩ : ∃ I : Nat × List UInt8 → (Nat → DVal) → DHeap → Prop, ∀ ux env heap, I ux env heap ↔ (heap = H ∧ env 0 = dI n ∧ env 4 = .int .u64 ux.1 ∧ env 3 = .str ux.2 ∧ ux.1 ≤ n.natAbs ∧ Lib.decDigits n.natAbs = Lib.decDigits ux.1 ++ ux.2) := ⟨_, fun _ _ _ => Iff.rfl⟩
    refine DLoop.run I (fun ux => ux.1) (n.natAbs, []) ((hI _ _ _).2 ?_) ?_
    · simp (disch := omega) only [go_sem, Nat.reduceEqDiff, Nat.reduceAdd, Nat.reduceMul, Nat.reduceSub, Nat.reduceLeDiff, ↓reduceIte, reduceCtorEq, Int.reduceAdd, Int.reduceSub, Int.reduceMul, Int.reduceNeg, Int.reduceToNat, List.reduceReplicate, String.reduceEq]
      (repeat' apply And.intro) <;> (try first | rfl | assumption | omega)
      simp
    · rintro ⟨u, s⟩ env heap hi
      obtain ⟨rfl, e0, e4, e3, hu, hs⟩ := (hI _ _ _).1 hi
      dsimp only at e4 e3 hu hs
      have hsl : s.length ≤ 20 := by
        have := congrArg List.length hs
        rw [List.length_append, Lib.decDigits_length, Lib.decDigits_length] at this
        have := Lib.nDigits_le20 n.natAbs (by omega)
        omega
      have ho : ∀ v : Int, strOf [.int .u8 v] = some [UInt8.ofNat v.toNat] := fun v => by simp only [strOf, Option.map_some]
      have hw3 : ∀ d : Nat, d < 10 → IntKind.u8.wrap (48 + (d : Int)) = 48 + (d : Int) := fun d hd => by rw [IntKind.wrap_u8]; omega
      have hw4 : ∀ d : Nat, d < 10 → IntKind.u64.wrap (48 + (d : Int)) = 48 + (d : Int) := fun d hd => by rw [IntKind.wrap_u64]; omega
      by_cases c9 : 9 < u
      · have hm : (u : Int).tmod 10 = ((u % 10 : Nat) : Int) := by rw [Int.tmod_eq_emod_of_nonneg (by omega)]; omega
        have hq : (u : Int).tdiv 10 = ((u / 10 : Nat) : Int) := by rw [Int.tdiv_eq_ediv_of_nonneg (by omega)]; omega
        have hw5 : IntKind.u64.wrap ((u / 10 : Nat) : Int) = ((u / 10 : Nat) : Int) := by rw [IntKind.wrap_u64]; omega
        have hd : u % 10 < 10 := by omega
        have c9' : (9 : Int) < (u : Int) := by omega
        simp (disch := omega) only [go_sem, Nat.reduceEqDiff, Nat.reduceAdd, Nat.reduceMul, Nat.reduceSub, Nat.reduceLeDiff, ↓reduceIte, reduceCtorEq, Int.reduceAdd, Int.reduceSub, Int.reduceMul, Int.reduceNeg, Int.reduceToNat, List.reduceReplicate, String.reduceEq, e0, e4, e3, hm, hq, hw3, hw4, hw5, c9']
        intro r hr; dsimp only at hr
        simp (disch := omega) only [go_sem, Nat.reduceEqDiff, Nat.reduceAdd, Nat.reduceMul, Nat.reduceSub, Nat.reduceLeDiff, ↓reduceIte, reduceCtorEq, Int.reduceAdd, Int.reduceSub, Int.reduceMul, Int.reduceNeg, Int.reduceToNat, List.reduceReplicate, String.reduceEq, e0, e4, e3, hm, hq, hw3, hw4, hw5, ho, Option.bind_some, List.length_cons, List.length_nil]
        refine ⟨(u / 10, UInt8.ofNat (48 + (u % 10 : Nat)) :: s), _, GhostS.drop _ r, (hI _ _ _).2 ?_, by dsimp only; omega⟩
        simp (disch := omega) only [go_sem, Nat.reduceEqDiff, Nat.reduceAdd, Nat.reduceMul, Nat.reduceSub, Nat.reduceLeDiff, ↓reduceIte, reduceCtorEq, Int.reduceAdd, Int.reduceSub, Int.reduceMul, Int.reduceNeg, Int.reduceToNat, List.reduceReplicate, String.reduceEq, e0, e4, e3]
        (repeat' apply And.intro) <;> (try first | rfl | assumption | omega)
        · exact upd_self hr
        · rw [hs, Lib.decDigits, dif_neg (by omega)]; simp
      · have hu9 : u < 10 := by omega
        have c9' : ¬ (9 : Int) < (u : Int) := by omega
        simp (disch := omega) only [go_sem, Nat.reduceEqDiff, Nat.reduceAdd, Nat.reduceMul, Nat.reduceSub, Nat.reduceLeDiff, ↓reduceIte, reduceCtorEq, Int.reduceAdd, Int.reduceSub, Int.reduceMul, Int.reduceNeg, Int.reduceToNat, List.reduceReplicate, String.reduceEq, e0, e4, e3, hw3, hw4, c9']
        intro r hr; dsimp only at hr
        have hdl : (Lib.decDigits n.natAbs).length ≤ 20 := by rw [Lib.decDigits_length]; exact Lib.nDigits_le20 n.natAbs (by omega)
        have hfin : Lib.decDigits n.natAbs = [UInt8.ofNat (48 + (u : Int)).toNat] ++ s := by
          rw [hs, Lib.decDigits_one hu9, show (48 + (u : Int)).toNat = 48 + u by omega]
        simp (disch := omega) only [go_sem, Nat.reduceEqDiff, Nat.reduceAdd, Nat.reduceMul, Nat.reduceSub, Nat.reduceLeDiff, ↓reduceIte, reduceCtorEq, Int.reduceAdd, Int.reduceSub, Int.reduceMul, Int.reduceNeg, Int.reduceToNat, List.reduceReplicate, String.reduceEq, e0, e4, e3, hw3, hw4, ho, Option.bind_some, List.length_cons, List.length_nil, List.length_append, ← hfin]
        refine DFin.dropA r hr (DFin.refl ⟨?_, rfl⟩)
        rw [itoa_abs]
        exact congrArg (fun x => DEnd.ret (.str x)) (if_pos c).symm
  · have hw : IntKind.u64.wrap n = (n.natAbs : Int) := by rw [IntKind.wrap_u64]; omega
    simp (disch := omega) only [go_sem, Nat.reduceEqDiff, Nat.reduceAdd, Nat.reduceMul, Nat.reduceSub, Nat.reduceLeDiff, ↓reduceIte, reduceCtorEq, Int.reduceAdd, Int.reduceSub, Int.reduceMul, Int.reduceNeg, Int.reduceToNat, List.reduceReplicate, String.reduceEq, hw]
    obtain ⟨I, hI⟩ : ∃ I : Nat × List UInt8 → (Nat → DVal) → DHeap → Prop, ∀ ux env heap, I ux env heap ↔ (heap = H ∧ env 0 = dI n ∧ env 4 = .int .u64 ux.1 ∧ env 3 = .str ux.2 ∧ ux.1 ≤ n.natAbs ∧ Lib.decDigits n.natAbs = Lib.decDigits ux.1 ++ ux.2) := ⟨_, fun _ _ _ => Iff.rfl⟩
    refine DLoop.run I (fun ux => ux.1) (n.natAbs, []) ((hI _ _ _).2 ?_) ?_
    · simp (disch := omega) only [go_sem, Nat.reduceEqDiff, Nat.reduceAdd, Nat.reduceMul, Nat.reduceSub, Nat.reduceLeDiff, ↓reduceIte, reduceCtorEq, Int.reduceAdd, Int.reduceSub, Int.reduceMul, Int.reduceNeg, Int.reduceToNat, List.reduceReplicate, String.reduceEq]
      (repeat' apply And.intro) <;> (try first | rfl | assumption | omega)
      simp
    · rintro ⟨u, s⟩ env heap hi
      obtain ⟨rfl, e0, e4, e3, hu, hs⟩ := (hI _ _ _).1 hi
      dsimp only at e4 e3 hu hs
      have hsl : s.length ≤ 20 := by
        have := congrArg List.length hs
        rw [List.length_append, Lib.decDigits_length, Lib.decDigits_length] at this
        have := Lib.nDigits_le20 n.natAbs (by omega)
        omega
      have ho : ∀ v : Int, strOf [.int .u8 v] = some [UInt8.ofNat v.toNat] := fun v => by simp only [strOf, Option.map_some]
      have hw3 : ∀ d : Nat, d < 10 → IntKind.u8.wrap (48 + (d : Int)) = 48 + (d : Int) := fun d hd => by rw [IntKind.wrap_u8]; omega
      have hw4 : ∀ d : Nat, d < 10 → IntKind.u64.wrap (48 + (d : Int)) = 48 + (d : Int) := fun d hd => by rw [IntKind.wrap_u64]; omega
      by_cases c9 : 9 < u
      · have hm : (u : Int).tmod 10 = ((u % 10 : Nat) : Int) := by rw [Int.tmod_eq_emod_of_nonneg (by omega)]; omega
        have hq : (u : Int).tdiv 10 = ((u / 10 : Nat) : Int) := by rw [Int.tdiv_eq_ediv_of_nonneg (by omega)]; omega
        have hw5 : IntKind.u64.wrap ((u / 10 : Nat) : Int) = ((u / 10 : Nat) : Int) := by rw [IntKind.wrap_u64]; omega
        have hd : u % 10 < 10 := by omega
        have c9' : (9 : Int) < (u : Int) := by omega
        simp (disch := omega) only [go_sem, Nat.reduceEqDiff, Nat.reduceAdd, Nat.reduceMul, Nat.reduceSub, Nat.reduceLeDiff, ↓reduceIte, reduceCtorEq, Int.reduceAdd, Int.reduceSub, Int.reduceMul, Int.reduceNeg, Int.reduceToNat, List.reduceReplicate, String.reduceEq, e0, e4, e3, hm, hq, hw3, hw4, hw5, c9']
        intro r hr; dsimp only at hr
        simp (disch := omega) only [go_sem, Nat.reduceEqDiff, Nat.reduceAdd, Nat.reduceMul, Nat.reduceSub, Nat.reduceLeDiff, ↓reduceIte, reduceCtorEq, Int.reduceAdd, Int.reduceSub, Int.reduceMul, Int.reduceNeg, Int.reduceToNat, List.reduceReplicate, String.reduceEq, e0, e4, e3, hm, hq, hw3, hw4, hw5, ho, Option.bind_some, List.length_cons, List.length_nil]
        refine ⟨(u / 10, UInt8.ofNat (48 + (u % 10 : Nat)) :: s), _, GhostS.drop _ r, (hI _ _ _).2 ?_, by dsimp only; omega⟩
        simp (disch := omega) only [go_sem, Nat.reduceEqDiff, Nat.reduceAdd, Nat.reduceMul, Nat.reduceSub, Nat.reduceLeDiff, ↓reduceIte, reduceCtorEq, Int.reduceAdd, Int.reduceSub, Int.reduceMul, Int.reduceNeg, Int.reduceToNat, List.reduceReplicate, String.reduceEq, e0, e4, e3]
        (repeat' apply And.intro) <;> (try first | rfl | assumption | omega)
        · exact upd_self hr
        · rw [hs, Lib.decDigits, dif_neg (by omega)]; simp
      · have hu9 : u < 10 := by omega
        have c9' : ¬ (9 : Int) < (u : Int) := by omega
        simp (disch := omega) only [go_sem, Nat.reduceEqDiff, Nat.reduceAdd, Nat.reduceMul, Nat.reduceSub, Nat.reduceLeDiff, ↓reduceIte, reduceCtorEq, Int.reduceAdd, Int.reduceSub, Int.reduceMul, Int.reduceNeg, Int.reduceToNat, List.reduceReplicate, String.reduceEq, e0, e4, e3, hw3, hw4, c9']
        intro r hr; dsimp only at hr
        have hdl : (Lib.decDigits n.natAbs).length ≤ 20 := by rw [Lib.decDigits_length]; exact Lib.nDigits_le20 n.natAbs (by omega)
        have hfin : Lib.decDigits n.natAbs = [UInt8.ofNat (48 + (u : Int)).toNat] ++ s := by
          rw [hs, Lib.decDigits_one hu9, show (48 + (u : Int)).toNat = 48 + u by omega]
        simp (disch := omega) only [go_sem, Nat.reduceEqDiff, Nat.reduceAdd, Nat.reduceMul, Nat.reduceSub, Nat.reduceLeDiff, ↓reduceIte, reduceCtorEq, Int.reduceAdd, Int.reduceSub, Int.reduceMul, Int.reduceNeg, Int.reduceToNat, List.reduceReplicate, String.reduceEq, e0, e4, e3, hw3, hw4, ho, Option.bind_some, List.length_cons, List.length_nil, List.length_append, ← hfin]
        refine DFin.dropA r hr (DFin.refl ⟨?_, rfl⟩)
        rw [itoa_abs]
        exact congrArg (fun x => DEnd.ret (.str x)) (if_neg c).symm

section
variable {H H' : DHeap} {e : TypeId} {n : Nat} {cs : List DVal} {v : DVal}
theorem OwnJ.get (hv : OwnJ H e 1 n cs v H') (hn : n ≠ 0) : ∃ r, H r = none ∧ cs.length = n ∧ v = .oslice 1 r 0 n n ∧ H' r = some (.cells cs e) ∧ Sub H H' ∧ ∀ cs', cs'.length = n → OwnJ H e 1 n cs' v (upd H' r (some (.cells cs' e))) := by
  rcases hv with ⟨h, _⟩ | ⟨r, h1, h2, h3, h4, h5⟩
  · exact absurd h hn
  · exact ⟨r, h1, by omega, h3, h4, h5, fun cs' h => .inr ⟨r, h1, by omega, h3, upd_same _ _ _, h5.up h1 _⟩⟩
end
theorem rwords_spec (G : Nat → DVal) (H : DHeap) (s : List UInt8) (hs : s.length ≤ 1000000000) : DCalls Tryd.prog G 72 [.str s] H (DRet (dStrs (fieldsL s)) H) := by
  refine dcalls_intro Tryd.func72 Tryd.call72 rfl (by kernel_rfl) ?_
  simp (disch := omega) only [go_sem, Nat.reduceEqDiff, Nat.reduceAdd, Nat.reduceMul, Nat.reduceSub, Nat.reduceLeDiff, ↓reduceIte, reduceCtorEq, Int.reduceAdd, Int.reduceSub, Int.reduceMul, Int.reduceNeg, Int.reduceToNat, List.reduceReplicate, String.reduceEq]
  intro r0 hr0; dsimp only at hr0
  simp (disch := omega) only [go_sem, Nat.reduceEqDiff, Nat.reduceAdd, Nat.reduceMul, Nat.reduceSub, Nat.reduceLeDiff, ↓reduceIte, reduceCtorEq, Int.reduceAdd, Int.reduceSub, Int.reduceMul, Int.reduceNeg, Int.reduceToNat, List.reduceReplicate, String.reduceEq]
  obtain ⟨I, hI⟩ : ∃ I : Nat × List (List UInt8) × List UInt8 → (Nat → DVal) → DHeap → Prop, ∀ ix env heap, I ix env heap ↔ (env 0 = .str s ∧ env 4 = dI ix.1 ∧ ix.1 ≤ s.length ∧ ix.2.1.length ≤ ix.1 ∧ ix.2.2.length ≤ ix.1 ∧ ix.2.1 ++ splitL (s.drop ix.1) ix.2.2 = fieldsL s ∧ OwnJ H 9 1 (ix.2.1.length + 1) ((ix.2.1 ++ [ix.2.2]).map .str) (env 3) heap) := ⟨_, fun _ _ _ => Iff.rfl⟩
  refine DLoop.run I (fun ix => s.length - ix.1) (0, [], []) ((hI _ _ _).2 ?_) ?_
  · simp (disch := omega) only [go_sem, Nat.reduceEqDiff, Nat.reduceAdd, Nat.reduceMul, Nat.reduceSub, Nat.reduceLeDiff, ↓reduceIte, reduceCtorEq, Int.reduceAdd, Int.reduceSub, Int.reduceMul, Int.reduceNeg, Int.reduceToNat, List.reduceReplicate, String.reduceEq]
    (repeat' apply And.intro) <;> (try first | rfl | assumption | omega)
    exact .inr ⟨r0, hr0, rfl, rfl, upd_same _ _ _, (Sub.refl H).up hr0 _⟩
  · rintro ⟨i, acc, cur⟩ env heap hi
    obtain ⟨e0, e4, hil, hal, hcl, hsp, hv⟩ := (hI _ _ _).1 hi
    dsimp only at e4 hil hal hcl hsp hv
    by_cases hlt : i < s.length
    · have hget : s[i]? = some s[i] := List.getElem?_eq_getElem hlt
      have hdr : s.drop i = s[i] :: s.drop (i + 1) := List.drop_eq_getElem_cons hlt
      by_cases c : s[i] = 32
      · have c' : (s[i].toNat : Int) = 32 := by rw [c]; rfl
        simp (disch := omega) only [go_sem, Nat.reduceEqDiff, Nat.reduceAdd, Nat.reduceMul, Nat.reduceSub, Nat.reduceLeDiff, ↓reduceIte, reduceCtorEq, Int.reduceAdd, Int.reduceSub, Int.reduceMul, Int.reduceNeg, Int.reduceToNat, List.reduceReplicate, String.reduceEq, e0, e4, hget, hlt, c']
        intro r hr; dsimp only at hr
        simp (disch := omega) only [go_sem, Nat.reduceEqDiff, Nat.reduceAdd, Nat.reduceMul, Nat.reduceSub, Nat.reduceLeDiff, ↓reduceIte, reduceCtorEq, Int.reduceAdd, Int.reduceSub, Int.reduceMul, Int.reduceNeg, Int.reduceToNat, List.reduceReplicate, String.reduceEq, e0, e4]
        refine OwnJ.append (m := 1) (bytes := 16) (OwnJ.new hv hr _) rfl (by omega) fun v2 H2 hv2 => ?_
        simp (disch := omega) only [go_sem, Nat.reduceEqDiff, Nat.reduceAdd, Nat.reduceMul, Nat.reduceSub, Nat.reduceLeDiff, ↓reduceIte, reduceCtorEq, Int.reduceAdd, Int.reduceSub, Int.reduceMul, Int.reduceNeg, Int.reduceToNat, List.reduceReplicate, String.reduceEq, e0, e4]
        refine ⟨(i + 1, acc ++ [cur], []), _, GhostS.refl _, (hI _ _ _).2 ?_, by dsimp only; omega⟩
        simp (disch := omega) only [go_sem, Nat.reduceEqDiff, Nat.reduceAdd, Nat.reduceMul, Nat.reduceSub, Nat.reduceLeDiff, ↓reduceIte, reduceCtorEq, Int.reduceAdd, Int.reduceSub, Int.reduceMul, Int.reduceNeg, Int.reduceToNat, List.reduceReplicate, String.reduceEq, e0, e4]
        (repeat' apply And.intro) <;> (try first | rfl | assumption | omega)
        · simp; omega
        · rw [← hsp, hdr, c, splitL, if_pos rfl]; simp
        · simpa using hv2
      · have c' : ¬ (s[i].toNat : Int) = 32 := toNat_ne (d := 32) c
        obtain ⟨r, k1, k2, k3, k4, k5, k6⟩ := hv.get (by omega)
        have hgl : ((acc ++ [cur]).map DVal.str)[acc.length]? = some (.str cur) := by simp
        have hk2 := k2
        rw [List.length_map] at hk2
        have hw1 : IntKind.i64.wrap (((acc.length + 1 : Nat) : Int) - 1) = (acc.length : Int) := by rw [IntKind.wrap_i64]; omega
        have hw2 : IntKind.i64.wrap ((i : Int) + 1) = ((i + 1 : Nat) : Int) := by rw [IntKind.wrap_i64]; omega
        have hsl : (s.drop i).take (i + 1 - i) = [s[i]] := by rw [hdr, show i + 1 - i = 1 by omega]; rfl
        have hset := splice_setA DVal.str (acc ++ [cur]) acc.length (cur ++ [s[i]]) (by simp)
        have hset2 : (acc ++ [cur]).set acc.length (cur ++ [s[i]]) = acc ++ [cur ++ [s[i]]] := by simp
        rw [hset2] at hset
        simp (disch := omega) only [go_sem, Nat.reduceEqDiff, Nat.reduceAdd, Nat.reduceMul, Nat.reduceSub, Nat.reduceLeDiff, ↓reduceIte, reduceCtorEq, Int.reduceAdd, Int.reduceSub, Int.reduceMul, Int.reduceNeg, Int.reduceToNat, List.reduceReplicate, String.reduceEq, e0, e4, hget, hlt, c', k3, k4]
        refine dwp_draws (by kernel_rfl) (.take 0 (.take 1 (.take 2 (.take 3 (.take 4 (.take 5 (.take 6 (.take 7 (.take 8 (.take 9 (.take 10 (.take 11 (.take 12 (.take 13 (.take 14 (.take 15 (.take 16 (.go 17 [] .done)))))))))))))))))) (by kernel_rfl) ?_
        simp (disch := omega) only [go_sem, Nat.reduceEqDiff, Nat.reduceAdd, Nat.reduceMul, Nat.reduceSub, Nat.reduceLeDiff, ↓reduceIte, reduceCtorEq, Int.reduceAdd, Int.reduceSub, Int.reduceMul, Int.reduceNeg, Int.reduceToNat, List.reduceReplicate, String.reduceEq, e0, e4, hget, hlt, c', k3, k4, hw1, hw2, hgl, hsl, k2, hk2, hset, Int.toNat_natCast, List.length_append, List.length_cons, List.length_nil, List.length_map]
        refine ⟨(i + 1, acc, cur ++ [s[i]]), _, GhostS.refl _, (hI _ _ _).2 ?_, by dsimp only; omega⟩
        simp (disch := omega) only [go_sem, Nat.reduceEqDiff, Nat.reduceAdd, Nat.reduceMul, Nat.reduceSub, Nat.reduceLeDiff, ↓reduceIte, reduceCtorEq, Int.reduceAdd, Int.reduceSub, Int.reduceMul, Int.reduceNeg, Int.reduceToNat, List.reduceReplicate, String.reduceEq, e0, e4, k3]
        (repeat' apply And.intro) <;> (try first | rfl | assumption | omega)
        · simp; omega
        · rw [← hsp, hdr, splitL, if_neg c]
        · have := k6 ((acc ++ [cur ++ [s[i]]]).map .str) (by simp); rw [k3] at this; exact this
    · simp (disch := omega) only [go_sem, Nat.reduceEqDiff, Nat.reduceAdd, Nat.reduceMul, Nat.reduceSub, Nat.reduceLeDiff, ↓reduceIte, reduceCtorEq, Int.reduceAdd, Int.reduceSub, Int.reduceMul, Int.reduceNeg, Int.reduceToNat, List.reduceReplicate, String.reduceEq, e0, e4, hlt]
      have hi : i = s.length := by omega
      subst hi
      refine OwnJ.fin hv ⟨?_, rfl⟩
      rw [← hsp, List.drop_length, splitL, dStrs]
      simp
end Go.Dl
