/- The data level and the contracts of the functions that are reached (part 5). -/
import Derived.Test.YtojpnjngdiimhaaGreatDoorProg
import Derived.KernelRfl
import Derived.Lib.ItoaMem
import Derived.Lib.LaidTab
import Derived.Lib.ItoaLen
import Derived.Lib.ParseIntBTie
import Derived.Lib.AppendIntMem
import Derived.Lib.IndexLaws
import Derived.Test.YtojpnjngdiimhaaGreatDoorXd
set_option linter.unusedSimpArgs false
set_option linter.unusedVariables false
-- THE DATA LEVEL: the lemmas that the long simp call (simp (disch := omega) only [go_sem, Nat.reduceEqDiff, Nat.reduceAdd, Nat.reduceMul, Nat.reduceSub, Nat.reduceLeDiff, ↓reduceIte, reduceCtorEq, Int.reduceAdd, Int.reduceSub, Int.reduceMul, Int.reduceNeg, Int.reduceToNat, List.reduceReplicate, String.reduceEq] in fill.py) takes besides the equations.
namespace Go.Dl
open Go
attribute [go_sem] Int.toNat_natCast Int.sub_zero Int.zero_add Int.add_zero Nat.add_sub_cancel wrap64_id List.length_cons List.length_nil List.all_cons List.all_nil Bool.and_true Bool.true_and Bool.or_false Bool.false_or
attribute [go_sem] List.take_succ_cons List.take_zero List.drop_succ_cons List.drop_zero decide_true decide_false Nat.mul_one Nat.one_mul Nat.zero_add Nat.add_zero Nat.mul_zero Nat.zero_mul Bool.not_true Bool.not_false
attribute [go_sem] Option.map_some Option.map_none Nat.le_refl Nat.zero_lt_succ ne_eq not_true_eq_false not_false_eq_true Option.isSome_some and_of dec_true dec_false true_imp_iff false_imp_iff beq_self_eq_true forall_const getElem_map List.length_map dIs dIss
end Go.Dl

-- Facts on the types of this seat, each by the kernel. MADE BY PROGRAM (facts.py).
namespace Go.Dl
open Go Go.Proofs
theorem cells_0 : Tryz.prog.cellsOf 0 = 1 := by kernel_rfl
theorem bytes_0 : Tryz.prog.bytesOf 0 = 0 := by kernel_rfl
theorem info_0 : (Tryz.prog.info? 0).isSome = true := by kernel_rfl
theorem agg_0 : aggB Tryz.prog 0 = some false := by kernel_rfl
theorem zero_0 : zeroOf Tryz.prog 0 = some (.tuple []) := by kernel_rfl
theorem cells_1 : Tryz.prog.cellsOf 1 = 1 := by kernel_rfl
theorem bytes_1 : Tryz.prog.bytesOf 1 = 8 := by kernel_rfl
theorem info_1 : (Tryz.prog.info? 1).isSome = true := by kernel_rfl
theorem agg_1 : aggB Tryz.prog 1 = some false := by kernel_rfl
theorem zero_1 : zeroOf Tryz.prog 1 = some (.nilFunc) := by kernel_rfl
theorem cells_2 : Tryz.prog.cellsOf 2 = 1 := by kernel_rfl
theorem bytes_2 : Tryz.prog.bytesOf 2 = 8 := by kernel_rfl
theorem info_2 : (Tryz.prog.info? 2).isSome = true := by kernel_rfl
theorem agg_2 : aggB Tryz.prog 2 = some false := by kernel_rfl
theorem zero_2 : zeroOf Tryz.prog 2 = some (.int .i64 0) := by kernel_rfl
theorem cells_3 : Tryz.prog.cellsOf 3 = 1 := by kernel_rfl
theorem bytes_3 : Tryz.prog.bytesOf 3 = 8 := by kernel_rfl
theorem info_3 : (Tryz.prog.info? 3).isSome = true := by kernel_rfl
theorem agg_3 : aggB Tryz.prog 3 = some false := by kernel_rfl
theorem zero_3 : zeroOf Tryz.prog 3 = some (.int .i64 0) := by kernel_rfl
theorem cells_4 : Tryz.prog.cellsOf 4 = 1 := by kernel_rfl
theorem bytes_4 : Tryz.prog.bytesOf 4 = 1 := by kernel_rfl
theorem info_4 : (Tryz.prog.info? 4).isSome = true := by kernel_rfl
theorem agg_4 : aggB Tryz.prog 4 = some false := by kernel_rfl
theorem zero_4 : zeroOf Tryz.prog 4 = some (.bool false) := by kernel_rfl
theorem cells_5 : Tryz.prog.cellsOf 5 = 1 := by kernel_rfl
theorem bytes_5 : Tryz.prog.bytesOf 5 = 1 := by kernel_rfl
theorem info_5 : (Tryz.prog.info? 5).isSome = true := by kernel_rfl
theorem agg_5 : aggB Tryz.prog 5 = some false := by kernel_rfl
theorem zero_5 : zeroOf Tryz.prog 5 = some (.int .u8 0) := by kernel_rfl
theorem cells_6 : Tryz.prog.cellsOf 6 = 1 := by kernel_rfl
theorem bytes_6 : Tryz.prog.bytesOf 6 = 1 := by kernel_rfl
theorem info_6 : (Tryz.prog.info? 6).isSome = true := by kernel_rfl
theorem agg_6 : aggB Tryz.prog 6 = some false := by kernel_rfl
theorem zero_6 : zeroOf Tryz.prog 6 = some (.int .u8 0) := by kernel_rfl
theorem cells_7 : Tryz.prog.cellsOf 7 = 4 := by kernel_rfl
theorem bytes_7 : Tryz.prog.bytesOf 7 = 24 := by kernel_rfl
theorem info_7 : (Tryz.prog.info? 7).isSome = true := by kernel_rfl
theorem agg_7 : aggB Tryz.prog 7 = some true := by kernel_rfl
theorem bok_7 : buildOk Tryz.prog 7 = true := by kernel_rfl
theorem zero_7 : zeroOf Tryz.prog 7 = some (.agg [.int .i64 0, .int .i64 0, .bool false, .int .u8 0]) := by kernel_rfl
theorem cells_8 : Tryz.prog.cellsOf 8 = 4 := by kernel_rfl
theorem bytes_8 : Tryz.prog.bytesOf 8 = 24 := by kernel_rfl
theorem info_8 : (Tryz.prog.info? 8).isSome = true := by kernel_rfl
theorem agg_8 : aggB Tryz.prog 8 = some true := by kernel_rfl
theorem bok_8 : buildOk Tryz.prog 8 = true := by kernel_rfl
theorem zero_8 : zeroOf Tryz.prog 8 = some (.agg [.int .i64 0, .int .i64 0, .bool false, .int .u8 0]) := by kernel_rfl
theorem cells_9 : Tryz.prog.cellsOf 9 = 1 := by kernel_rfl
theorem bytes_9 : Tryz.prog.bytesOf 9 = 16 := by kernel_rfl
theorem info_9 : (Tryz.prog.info? 9).isSome = true := by kernel_rfl
theorem agg_9 : aggB Tryz.prog 9 = some false := by kernel_rfl
theorem zero_9 : zeroOf Tryz.prog 9 = some (.str []) := by kernel_rfl
theorem cells_10 : Tryz.prog.cellsOf 10 = 1 := by kernel_rfl
theorem bytes_10 : Tryz.prog.bytesOf 10 = 16 := by kernel_rfl
theorem info_10 : (Tryz.prog.info? 10).isSome = true := by kernel_rfl
theorem agg_10 : aggB Tryz.prog 10 = some false := by kernel_rfl
theorem zero_10 : zeroOf Tryz.prog 10 = some (.str []) := by kernel_rfl
theorem cells_11 : Tryz.prog.cellsOf 11 = 1 := by kernel_rfl
theorem bytes_11 : Tryz.prog.bytesOf 11 = 16 := by kernel_rfl
theorem info_11 : (Tryz.prog.info? 11).isSome = true := by kernel_rfl
theorem agg_11 : aggB Tryz.prog 11 = some false := by kernel_rfl
theorem zero_11 : zeroOf Tryz.prog 11 = some (.str []) := by kernel_rfl
theorem cells_12 : Tryz.prog.cellsOf 12 = 1 := by kernel_rfl
theorem bytes_12 : Tryz.prog.bytesOf 12 = 8 := by kernel_rfl
theorem info_12 : (Tryz.prog.info? 12).isSome = true := by kernel_rfl
theorem agg_12 : aggB Tryz.prog 12 = some false := by kernel_rfl
theorem zero_12 : zeroOf Tryz.prog 12 = some (.int .u64 0) := by kernel_rfl
theorem cells_13 : Tryz.prog.cellsOf 13 = 2 := by kernel_rfl
theorem bytes_13 : Tryz.prog.bytesOf 13 = 24 := by kernel_rfl
theorem info_13 : (Tryz.prog.info? 13).isSome = true := by kernel_rfl
theorem agg_13 : aggB Tryz.prog 13 = some true := by kernel_rfl
theorem bok_13 : buildOk Tryz.prog 13 = true := by kernel_rfl
theorem zero_13 : zeroOf Tryz.prog 13 = some (.agg [.str [], .int .u64 0]) := by kernel_rfl
theorem cells_14 : Tryz.prog.cellsOf 14 = 2 := by kernel_rfl
theorem bytes_14 : Tryz.prog.bytesOf 14 = 24 := by kernel_rfl
theorem info_14 : (Tryz.prog.info? 14).isSome = true := by kernel_rfl
theorem agg_14 : aggB Tryz.prog 14 = some true := by kernel_rfl
theorem bok_14 : buildOk Tryz.prog 14 = true := by kernel_rfl
theorem zero_14 : zeroOf Tryz.prog 14 = some (.agg [.str [], .int .u64 0]) := by kernel_rfl
theorem cells_15 : Tryz.prog.cellsOf 15 = 1 := by kernel_rfl
theorem bytes_15 : Tryz.prog.bytesOf 15 = 8 := by kernel_rfl
theorem info_15 : (Tryz.prog.info? 15).isSome = true := by kernel_rfl
theorem agg_15 : aggB Tryz.prog 15 = some false := by kernel_rfl
theorem zero_15 : zeroOf Tryz.prog 15 = some (.nilPtr) := by kernel_rfl
theorem cells_16 : Tryz.prog.cellsOf 16 = 1 := by kernel_rfl
theorem bytes_16 : Tryz.prog.bytesOf 16 = 8 := by kernel_rfl
theorem info_16 : (Tryz.prog.info? 16).isSome = true := by kernel_rfl
theorem agg_16 : aggB Tryz.prog 16 = some false := by kernel_rfl
theorem zero_16 : zeroOf Tryz.prog 16 = some (.nilPtr) := by kernel_rfl
theorem cells_17 : Tryz.prog.cellsOf 17 = 1 := by kernel_rfl
theorem bytes_17 : Tryz.prog.bytesOf 17 = 8 := by kernel_rfl
theorem info_17 : (Tryz.prog.info? 17).isSome = true := by kernel_rfl
theorem agg_17 : aggB Tryz.prog 17 = some false := by kernel_rfl
theorem zero_17 : zeroOf Tryz.prog 17 = some (.nilPtr) := by kernel_rfl
theorem cells_18 : Tryz.prog.cellsOf 18 = 1 := by kernel_rfl
theorem bytes_18 : Tryz.prog.bytesOf 18 = 8 := by kernel_rfl
theorem info_18 : (Tryz.prog.info? 18).isSome = true := by kernel_rfl
theorem agg_18 : aggB Tryz.prog 18 = some true := by kernel_rfl
theorem bok_18 : buildOk Tryz.prog 18 = true := by kernel_rfl
theorem zero_18 : zeroOf Tryz.prog 18 = some (.agg [.nilPtr]) := by kernel_rfl
theorem cells_19 : Tryz.prog.cellsOf 19 = 1 := by kernel_rfl
theorem bytes_19 : Tryz.prog.bytesOf 19 = 8 := by kernel_rfl
theorem info_19 : (Tryz.prog.info? 19).isSome = true := by kernel_rfl
theorem agg_19 : aggB Tryz.prog 19 = some true := by kernel_rfl
theorem bok_19 : buildOk Tryz.prog 19 = true := by kernel_rfl
theorem zero_19 : zeroOf Tryz.prog 19 = some (.agg [.nilPtr]) := by kernel_rfl
theorem cells_20 : Tryz.prog.cellsOf 20 = 1 := by kernel_rfl
theorem bytes_20 : Tryz.prog.bytesOf 20 = 16 := by kernel_rfl
theorem info_20 : (Tryz.prog.info? 20).isSome = true := by kernel_rfl
theorem agg_20 : aggB Tryz.prog 20 = some false := by kernel_rfl
theorem zero_20 : zeroOf Tryz.prog 20 = some (.nilIface) := by kernel_rfl
theorem cells_21 : Tryz.prog.cellsOf 21 = 1 := by kernel_rfl
theorem bytes_21 : Tryz.prog.bytesOf 21 = 4 := by kernel_rfl
theorem info_21 : (Tryz.prog.info? 21).isSome = true := by kernel_rfl
theorem agg_21 : aggB Tryz.prog 21 = some false := by kernel_rfl
theorem zero_21 : zeroOf Tryz.prog 21 = some (.int .i32 0) := by kernel_rfl
theorem cells_22 : Tryz.prog.cellsOf 22 = 1 := by kernel_rfl
theorem bytes_22 : Tryz.prog.bytesOf 22 = 8 := by kernel_rfl
theorem info_22 : (Tryz.prog.info? 22).isSome = true := by kernel_rfl
theorem agg_22 : aggB Tryz.prog 22 = some false := by kernel_rfl
theorem zero_22 : zeroOf Tryz.prog 22 = some (.nilFunc) := by kernel_rfl
theorem cells_23 : Tryz.prog.cellsOf 23 = 1 := by kernel_rfl
theorem bytes_23 : Tryz.prog.bytesOf 23 = 8 := by kernel_rfl
theorem info_23 : (Tryz.prog.info? 23).isSome = true := by kernel_rfl
theorem agg_23 : aggB Tryz.prog 23 = some false := by kernel_rfl
theorem zero_23 : zeroOf Tryz.prog 23 = some (.nilFunc) := by kernel_rfl
theorem cells_24 : Tryz.prog.cellsOf 24 = 1 := by kernel_rfl
theorem bytes_24 : Tryz.prog.bytesOf 24 = 24 := by kernel_rfl
theorem info_24 : (Tryz.prog.info? 24).isSome = true := by kernel_rfl
theorem agg_24 : aggB Tryz.prog 24 = some false := by kernel_rfl
theorem zero_24 : zeroOf Tryz.prog 24 = some (.nilSlice) := by kernel_rfl
theorem cells_25 : Tryz.prog.cellsOf 25 = 1 := by kernel_rfl
theorem bytes_25 : Tryz.prog.bytesOf 25 = 1 := by kernel_rfl
theorem info_25 : (Tryz.prog.info? 25).isSome = true := by kernel_rfl
theorem agg_25 : aggB Tryz.prog 25 = some false := by kernel_rfl
theorem zero_25 : zeroOf Tryz.prog 25 = some (.int .u8 0) := by kernel_rfl
theorem cells_26 : Tryz.prog.cellsOf 26 = 4 := by kernel_rfl
theorem bytes_26 : Tryz.prog.bytesOf 26 = 40 := by kernel_rfl
theorem info_26 : (Tryz.prog.info? 26).isSome = true := by kernel_rfl
theorem agg_26 : aggB Tryz.prog 26 = some true := by kernel_rfl
theorem bok_26 : buildOk Tryz.prog 26 = true := by kernel_rfl
theorem zero_26 : zeroOf Tryz.prog 26 = some (.agg [.int .u8 0, .int .i64 0, .str [], .int .i64 0]) := by kernel_rfl
theorem cells_27 : Tryz.prog.cellsOf 27 = 4 := by kernel_rfl
theorem bytes_27 : Tryz.prog.bytesOf 27 = 40 := by kernel_rfl
theorem info_27 : (Tryz.prog.info? 27).isSome = true := by kernel_rfl
theorem agg_27 : aggB Tryz.prog 27 = some true := by kernel_rfl
theorem bok_27 : buildOk Tryz.prog 27 = true := by kernel_rfl
theorem zero_27 : zeroOf Tryz.prog 27 = some (.agg [.int .u8 0, .int .i64 0, .str [], .int .i64 0]) := by kernel_rfl
theorem cells_28 : Tryz.prog.cellsOf 28 = 1 := by kernel_rfl
theorem bytes_28 : Tryz.prog.bytesOf 28 = 8 := by kernel_rfl
theorem info_28 : (Tryz.prog.info? 28).isSome = true := by kernel_rfl
theorem agg_28 : aggB Tryz.prog 28 = some false := by kernel_rfl
theorem zero_28 : zeroOf Tryz.prog 28 = some (.nilFunc) := by kernel_rfl
theorem cells_29 : Tryz.prog.cellsOf 29 = 1 := by kernel_rfl
theorem bytes_29 : Tryz.prog.bytesOf 29 = 8 := by kernel_rfl
theorem info_29 : (Tryz.prog.info? 29).isSome = true := by kernel_rfl
theorem agg_29 : aggB Tryz.prog 29 = some false := by kernel_rfl
theorem zero_29 : zeroOf Tryz.prog 29 = some (.nilFunc) := by kernel_rfl
theorem cells_30 : Tryz.prog.cellsOf 30 = 1 := by kernel_rfl
theorem bytes_30 : Tryz.prog.bytesOf 30 = 24 := by kernel_rfl
theorem info_30 : (Tryz.prog.info? 30).isSome = true := by kernel_rfl
theorem agg_30 : aggB Tryz.prog 30 = some false := by kernel_rfl
theorem zero_30 : zeroOf Tryz.prog 30 = some (.nilSlice) := by kernel_rfl
theorem cells_31 : Tryz.prog.cellsOf 31 = 2 := by kernel_rfl
theorem bytes_31 : Tryz.prog.bytesOf 31 = 32 := by kernel_rfl
theorem info_31 : (Tryz.prog.info? 31).isSome = true := by kernel_rfl
theorem agg_31 : aggB Tryz.prog 31 = some true := by kernel_rfl
theorem bok_31 : buildOk Tryz.prog 31 = true := by kernel_rfl
theorem zero_31 : zeroOf Tryz.prog 31 = some (.agg [.int .i64 0, .nilSlice]) := by kernel_rfl
theorem cells_32 : Tryz.prog.cellsOf 32 = 2 := by kernel_rfl
theorem bytes_32 : Tryz.prog.bytesOf 32 = 32 := by kernel_rfl
theorem info_32 : (Tryz.prog.info? 32).isSome = true := by kernel_rfl
theorem agg_32 : aggB Tryz.prog 32 = some true := by kernel_rfl
theorem bok_32 : buildOk Tryz.prog 32 = true := by kernel_rfl
theorem zero_32 : zeroOf Tryz.prog 32 = some (.agg [.int .i64 0, .nilSlice]) := by kernel_rfl
theorem cells_33 : Tryz.prog.cellsOf 33 = 1 := by kernel_rfl
theorem bytes_33 : Tryz.prog.bytesOf 33 = 8 := by kernel_rfl
theorem info_33 : (Tryz.prog.info? 33).isSome = true := by kernel_rfl
theorem agg_33 : aggB Tryz.prog 33 = some false := by kernel_rfl
theorem zero_33 : zeroOf Tryz.prog 33 = some (.int .i64 0) := by kernel_rfl
theorem cells_34 : Tryz.prog.cellsOf 34 = 1 := by kernel_rfl
theorem bytes_34 : Tryz.prog.bytesOf 34 = 0 := by kernel_rfl
theorem info_34 : (Tryz.prog.info? 34).isSome = true := by kernel_rfl
theorem agg_34 : aggB Tryz.prog 34 = some false := by kernel_rfl
theorem zero_34 : zeroOf Tryz.prog 34 = some (.tuple [.str [], .int .i64 0]) := by kernel_rfl
theorem cells_35 : Tryz.prog.cellsOf 35 = 1 := by kernel_rfl
theorem bytes_35 : Tryz.prog.bytesOf 35 = 8 := by kernel_rfl
theorem info_35 : (Tryz.prog.info? 35).isSome = true := by kernel_rfl
theorem agg_35 : aggB Tryz.prog 35 = some false := by kernel_rfl
theorem zero_35 : zeroOf Tryz.prog 35 = some (.nilFunc) := by kernel_rfl
theorem cells_36 : Tryz.prog.cellsOf 36 = 1 := by kernel_rfl
theorem bytes_36 : Tryz.prog.bytesOf 36 = 8 := by kernel_rfl
theorem info_36 : (Tryz.prog.info? 36).isSome = true := by kernel_rfl
theorem agg_36 : aggB Tryz.prog 36 = some false := by kernel_rfl
theorem zero_36 : zeroOf Tryz.prog 36 = some (.nilFunc) := by kernel_rfl
theorem cells_37 : Tryz.prog.cellsOf 37 = 1 := by kernel_rfl
theorem bytes_37 : Tryz.prog.bytesOf 37 = 8 := by kernel_rfl
theorem info_37 : (Tryz.prog.info? 37).isSome = true := by kernel_rfl
theorem agg_37 : aggB Tryz.prog 37 = some false := by kernel_rfl
theorem zero_37 : zeroOf Tryz.prog 37 = some (.nilFunc) := by kernel_rfl
theorem cells_38 : Tryz.prog.cellsOf 38 = 1 := by kernel_rfl
theorem bytes_38 : Tryz.prog.bytesOf 38 = 8 := by kernel_rfl
theorem info_38 : (Tryz.prog.info? 38).isSome = true := by kernel_rfl
theorem agg_38 : aggB Tryz.prog 38 = some false := by kernel_rfl
theorem zero_38 : zeroOf Tryz.prog 38 = some (.nilFunc) := by kernel_rfl
theorem cells_39 : Tryz.prog.cellsOf 39 = 1 := by kernel_rfl
theorem bytes_39 : Tryz.prog.bytesOf 39 = 0 := by kernel_rfl
theorem info_39 : (Tryz.prog.info? 39).isSome = true := by kernel_rfl
theorem agg_39 : aggB Tryz.prog 39 = some false := by kernel_rfl
theorem zero_39 : zeroOf Tryz.prog 39 = some (.tuple [.nilSlice, .int .i64 0, .int .i64 0]) := by kernel_rfl
theorem cells_40 : Tryz.prog.cellsOf 40 = 1 := by kernel_rfl
theorem bytes_40 : Tryz.prog.bytesOf 40 = 8 := by kernel_rfl
theorem info_40 : (Tryz.prog.info? 40).isSome = true := by kernel_rfl
theorem agg_40 : aggB Tryz.prog 40 = some false := by kernel_rfl
theorem zero_40 : zeroOf Tryz.prog 40 = some (.nilFunc) := by kernel_rfl
theorem cells_41 : Tryz.prog.cellsOf 41 = 1 := by kernel_rfl
theorem bytes_41 : Tryz.prog.bytesOf 41 = 8 := by kernel_rfl
theorem info_41 : (Tryz.prog.info? 41).isSome = true := by kernel_rfl
theorem agg_41 : aggB Tryz.prog 41 = some false := by kernel_rfl
theorem zero_41 : zeroOf Tryz.prog 41 = some (.nilFunc) := by kernel_rfl
theorem cells_42 : Tryz.prog.cellsOf 42 = 1 := by kernel_rfl
theorem bytes_42 : Tryz.prog.bytesOf 42 = 4 := by kernel_rfl
theorem info_42 : (Tryz.prog.info? 42).isSome = true := by kernel_rfl
theorem agg_42 : aggB Tryz.prog 42 = some false := by kernel_rfl
theorem zero_42 : zeroOf Tryz.prog 42 = some (.int .u32 0) := by kernel_rfl
theorem cells_43 : Tryz.prog.cellsOf 43 = 1 := by kernel_rfl
theorem bytes_43 : Tryz.prog.bytesOf 43 = 8 := by kernel_rfl
theorem info_43 : (Tryz.prog.info? 43).isSome = true := by kernel_rfl
theorem agg_43 : aggB Tryz.prog 43 = some false := by kernel_rfl
theorem zero_43 : zeroOf Tryz.prog 43 = some (.nilFunc) := by kernel_rfl
theorem cells_44 : Tryz.prog.cellsOf 44 = 1 := by kernel_rfl
theorem bytes_44 : Tryz.prog.bytesOf 44 = 8 := by kernel_rfl
theorem info_44 : (Tryz.prog.info? 44).isSome = true := by kernel_rfl
theorem agg_44 : aggB Tryz.prog 44 = some false := by kernel_rfl
theorem zero_44 : zeroOf Tryz.prog 44 = some (.nilFunc) := by kernel_rfl
theorem cells_45 : Tryz.prog.cellsOf 45 = 1 := by kernel_rfl
theorem bytes_45 : Tryz.prog.bytesOf 45 = 8 := by kernel_rfl
theorem info_45 : (Tryz.prog.info? 45).isSome = true := by kernel_rfl
theorem agg_45 : aggB Tryz.prog 45 = some false := by kernel_rfl
theorem zero_45 : zeroOf Tryz.prog 45 = some (.nilFunc) := by kernel_rfl
theorem cells_46 : Tryz.prog.cellsOf 46 = 1 := by kernel_rfl
theorem bytes_46 : Tryz.prog.bytesOf 46 = 8 := by kernel_rfl
theorem info_46 : (Tryz.prog.info? 46).isSome = true := by kernel_rfl
theorem agg_46 : aggB Tryz.prog 46 = some false := by kernel_rfl
theorem zero_46 : zeroOf Tryz.prog 46 = some (.nilFunc) := by kernel_rfl
theorem cells_47 : Tryz.prog.cellsOf 47 = 1 := by kernel_rfl
theorem bytes_47 : Tryz.prog.bytesOf 47 = 8 := by kernel_rfl
theorem info_47 : (Tryz.prog.info? 47).isSome = true := by kernel_rfl
theorem agg_47 : aggB Tryz.prog 47 = some false := by kernel_rfl
theorem zero_47 : zeroOf Tryz.prog 47 = some (.nilFunc) := by kernel_rfl
theorem cells_48 : Tryz.prog.cellsOf 48 = 1 := by kernel_rfl
theorem bytes_48 : Tryz.prog.bytesOf 48 = 8 := by kernel_rfl
theorem info_48 : (Tryz.prog.info? 48).isSome = true := by kernel_rfl
theorem agg_48 : aggB Tryz.prog 48 = some false := by kernel_rfl
theorem zero_48 : zeroOf Tryz.prog 48 = some (.nilFunc) := by kernel_rfl
theorem cells_49 : Tryz.prog.cellsOf 49 = 1 := by kernel_rfl
theorem bytes_49 : Tryz.prog.bytesOf 49 = 8 := by kernel_rfl
theorem info_49 : (Tryz.prog.info? 49).isSome = true := by kernel_rfl
theorem agg_49 : aggB Tryz.prog 49 = some false := by kernel_rfl
theorem zero_49 : zeroOf Tryz.prog 49 = some (.nilFunc) := by kernel_rfl
theorem cells_50 : Tryz.prog.cellsOf 50 = 1 := by kernel_rfl
theorem bytes_50 : Tryz.prog.bytesOf 50 = 8 := by kernel_rfl
theorem info_50 : (Tryz.prog.info? 50).isSome = true := by kernel_rfl
theorem agg_50 : aggB Tryz.prog 50 = some false := by kernel_rfl
theorem zero_50 : zeroOf Tryz.prog 50 = some (.nilFunc) := by kernel_rfl
theorem cells_51 : Tryz.prog.cellsOf 51 = 1 := by kernel_rfl
theorem bytes_51 : Tryz.prog.bytesOf 51 = 8 := by kernel_rfl
theorem info_51 : (Tryz.prog.info? 51).isSome = true := by kernel_rfl
theorem agg_51 : aggB Tryz.prog 51 = some false := by kernel_rfl
theorem zero_51 : zeroOf Tryz.prog 51 = some (.nilFunc) := by kernel_rfl
theorem cells_52 : Tryz.prog.cellsOf 52 = 1 := by kernel_rfl
theorem bytes_52 : Tryz.prog.bytesOf 52 = 8 := by kernel_rfl
theorem info_52 : (Tryz.prog.info? 52).isSome = true := by kernel_rfl
theorem agg_52 : aggB Tryz.prog 52 = some false := by kernel_rfl
theorem zero_52 : zeroOf Tryz.prog 52 = some (.nilFunc) := by kernel_rfl
theorem cells_53 : Tryz.prog.cellsOf 53 = 1 := by kernel_rfl
theorem bytes_53 : Tryz.prog.bytesOf 53 = 2 := by kernel_rfl
theorem info_53 : (Tryz.prog.info? 53).isSome = true := by kernel_rfl
theorem agg_53 : aggB Tryz.prog 53 = some false := by kernel_rfl
theorem zero_53 : zeroOf Tryz.prog 53 = some (.int .u16 0) := by kernel_rfl
theorem cells_54 : Tryz.prog.cellsOf 54 = 1 := by kernel_rfl
theorem bytes_54 : Tryz.prog.bytesOf 54 = 24 := by kernel_rfl
theorem info_54 : (Tryz.prog.info? 54).isSome = true := by kernel_rfl
theorem agg_54 : aggB Tryz.prog 54 = some false := by kernel_rfl
theorem zero_54 : zeroOf Tryz.prog 54 = some (.nilSlice) := by kernel_rfl
theorem cells_55 : Tryz.prog.cellsOf 55 = 1 := by kernel_rfl
theorem bytes_55 : Tryz.prog.bytesOf 55 = 8 := by kernel_rfl
theorem info_55 : (Tryz.prog.info? 55).isSome = true := by kernel_rfl
theorem agg_55 : aggB Tryz.prog 55 = some false := by kernel_rfl
theorem zero_55 : zeroOf Tryz.prog 55 = some (.nilFunc) := by kernel_rfl
theorem cells_56 : Tryz.prog.cellsOf 56 = 1 := by kernel_rfl
theorem bytes_56 : Tryz.prog.bytesOf 56 = 24 := by kernel_rfl
theorem info_56 : (Tryz.prog.info? 56).isSome = true := by kernel_rfl
theorem agg_56 : aggB Tryz.prog 56 = some false := by kernel_rfl
theorem zero_56 : zeroOf Tryz.prog 56 = some (.nilSlice) := by kernel_rfl
theorem cells_57 : Tryz.prog.cellsOf 57 = 1 := by kernel_rfl
theorem bytes_57 : Tryz.prog.bytesOf 57 = 8 := by kernel_rfl
theorem info_57 : (Tryz.prog.info? 57).isSome = true := by kernel_rfl
theorem agg_57 : aggB Tryz.prog 57 = some false := by kernel_rfl
theorem zero_57 : zeroOf Tryz.prog 57 = some (.nilFunc) := by kernel_rfl
theorem cells_58 : Tryz.prog.cellsOf 58 = 1 := by kernel_rfl
theorem bytes_58 : Tryz.prog.bytesOf 58 = 8 := by kernel_rfl
theorem info_58 : (Tryz.prog.info? 58).isSome = true := by kernel_rfl
theorem agg_58 : aggB Tryz.prog 58 = some false := by kernel_rfl
theorem zero_58 : zeroOf Tryz.prog 58 = some (.nilFunc) := by kernel_rfl
theorem cells_59 : Tryz.prog.cellsOf 59 = 1 := by kernel_rfl
theorem bytes_59 : Tryz.prog.bytesOf 59 = 8 := by kernel_rfl
theorem info_59 : (Tryz.prog.info? 59).isSome = true := by kernel_rfl
theorem agg_59 : aggB Tryz.prog 59 = some false := by kernel_rfl
theorem zero_59 : zeroOf Tryz.prog 59 = some (.nilFunc) := by kernel_rfl
theorem cells_60 : Tryz.prog.cellsOf 60 = 1 := by kernel_rfl
theorem bytes_60 : Tryz.prog.bytesOf 60 = 8 := by kernel_rfl
theorem info_60 : (Tryz.prog.info? 60).isSome = true := by kernel_rfl
theorem agg_60 : aggB Tryz.prog 60 = some false := by kernel_rfl
theorem zero_60 : zeroOf Tryz.prog 60 = some (.nilFunc) := by kernel_rfl
theorem cells_61 : Tryz.prog.cellsOf 61 = 1 := by kernel_rfl
theorem bytes_61 : Tryz.prog.bytesOf 61 = 8 := by kernel_rfl
theorem info_61 : (Tryz.prog.info? 61).isSome = true := by kernel_rfl
theorem agg_61 : aggB Tryz.prog 61 = some false := by kernel_rfl
theorem zero_61 : zeroOf Tryz.prog 61 = some (.nilFunc) := by kernel_rfl
theorem cells_62 : Tryz.prog.cellsOf 62 = 1 := by kernel_rfl
theorem bytes_62 : Tryz.prog.bytesOf 62 = 0 := by kernel_rfl
theorem info_62 : (Tryz.prog.info? 62).isSome = true := by kernel_rfl
theorem agg_62 : aggB Tryz.prog 62 = some false := by kernel_rfl
theorem zero_62 : zeroOf Tryz.prog 62 = some (.tuple [.int .i64 0, .bool false]) := by kernel_rfl
theorem cells_63 : Tryz.prog.cellsOf 63 = 1 := by kernel_rfl
theorem bytes_63 : Tryz.prog.bytesOf 63 = 8 := by kernel_rfl
theorem info_63 : (Tryz.prog.info? 63).isSome = true := by kernel_rfl
theorem agg_63 : aggB Tryz.prog 63 = some false := by kernel_rfl
theorem zero_63 : zeroOf Tryz.prog 63 = some (.nilFunc) := by kernel_rfl
theorem cells_64 : Tryz.prog.cellsOf 64 = 1 := by kernel_rfl
theorem bytes_64 : Tryz.prog.bytesOf 64 = 8 := by kernel_rfl
theorem info_64 : (Tryz.prog.info? 64).isSome = true := by kernel_rfl
theorem agg_64 : aggB Tryz.prog 64 = some false := by kernel_rfl
theorem zero_64 : zeroOf Tryz.prog 64 = some (.nilFunc) := by kernel_rfl
theorem cells_65 : Tryz.prog.cellsOf 65 = 1 := by kernel_rfl
theorem bytes_65 : Tryz.prog.bytesOf 65 = 8 := by kernel_rfl
theorem info_65 : (Tryz.prog.info? 65).isSome = true := by kernel_rfl
theorem agg_65 : aggB Tryz.prog 65 = some false := by kernel_rfl
theorem zero_65 : zeroOf Tryz.prog 65 = some (.nilFunc) := by kernel_rfl
theorem cells_66 : Tryz.prog.cellsOf 66 = 1 := by kernel_rfl
theorem bytes_66 : Tryz.prog.bytesOf 66 = 8 := by kernel_rfl
theorem info_66 : (Tryz.prog.info? 66).isSome = true := by kernel_rfl
theorem agg_66 : aggB Tryz.prog 66 = some false := by kernel_rfl
theorem zero_66 : zeroOf Tryz.prog 66 = some (.nilFunc) := by kernel_rfl
theorem cells_67 : Tryz.prog.cellsOf 67 = 1 := by kernel_rfl
theorem bytes_67 : Tryz.prog.bytesOf 67 = 8 := by kernel_rfl
theorem info_67 : (Tryz.prog.info? 67).isSome = true := by kernel_rfl
theorem agg_67 : aggB Tryz.prog 67 = some false := by kernel_rfl
theorem zero_67 : zeroOf Tryz.prog 67 = some (.nilFunc) := by kernel_rfl
theorem cells_68 : Tryz.prog.cellsOf 68 = 1 := by kernel_rfl
theorem bytes_68 : Tryz.prog.bytesOf 68 = 8 := by kernel_rfl
theorem info_68 : (Tryz.prog.info? 68).isSome = true := by kernel_rfl
theorem agg_68 : aggB Tryz.prog 68 = some false := by kernel_rfl
theorem zero_68 : zeroOf Tryz.prog 68 = some (.nilFunc) := by kernel_rfl
theorem cells_69 : Tryz.prog.cellsOf 69 = 1 := by kernel_rfl
theorem bytes_69 : Tryz.prog.bytesOf 69 = 0 := by kernel_rfl
theorem info_69 : (Tryz.prog.info? 69).isSome = true := by kernel_rfl
theorem agg_69 : aggB Tryz.prog 69 = some false := by kernel_rfl
theorem zero_69 : zeroOf Tryz.prog 69 = some (.tuple [.str [], .bool false]) := by kernel_rfl
theorem cells_70 : Tryz.prog.cellsOf 70 = 1 := by kernel_rfl
theorem bytes_70 : Tryz.prog.bytesOf 70 = 8 := by kernel_rfl
theorem info_70 : (Tryz.prog.info? 70).isSome = true := by kernel_rfl
theorem agg_70 : aggB Tryz.prog 70 = some false := by kernel_rfl
theorem zero_70 : zeroOf Tryz.prog 70 = some (.nilFunc) := by kernel_rfl
theorem cells_71 : Tryz.prog.cellsOf 71 = 1 := by kernel_rfl
theorem bytes_71 : Tryz.prog.bytesOf 71 = 8 := by kernel_rfl
theorem info_71 : (Tryz.prog.info? 71).isSome = true := by kernel_rfl
theorem agg_71 : aggB Tryz.prog 71 = some false := by kernel_rfl
theorem zero_71 : zeroOf Tryz.prog 71 = some (.nilFunc) := by kernel_rfl
theorem cells_72 : Tryz.prog.cellsOf 72 = 1 := by kernel_rfl
theorem bytes_72 : Tryz.prog.bytesOf 72 = 8 := by kernel_rfl
theorem info_72 : (Tryz.prog.info? 72).isSome = true := by kernel_rfl
theorem agg_72 : aggB Tryz.prog 72 = some false := by kernel_rfl
theorem zero_72 : zeroOf Tryz.prog 72 = some (.nilPtr) := by kernel_rfl
theorem cells_73 : Tryz.prog.cellsOf 73 = 2 := by kernel_rfl
theorem bytes_73 : Tryz.prog.bytesOf 73 = 32 := by kernel_rfl
theorem info_73 : (Tryz.prog.info? 73).isSome = true := by kernel_rfl
theorem agg_73 : aggB Tryz.prog 73 = some true := by kernel_rfl
theorem bok_73 : buildOk Tryz.prog 73 = true := by kernel_rfl
theorem zero_73 : zeroOf Tryz.prog 73 = some (.agg [.nilPtr, .nilSlice]) := by kernel_rfl
theorem cells_74 : Tryz.prog.cellsOf 74 = 2 := by kernel_rfl
theorem bytes_74 : Tryz.prog.bytesOf 74 = 32 := by kernel_rfl
theorem info_74 : (Tryz.prog.info? 74).isSome = true := by kernel_rfl
theorem agg_74 : aggB Tryz.prog 74 = some true := by kernel_rfl
theorem bok_74 : buildOk Tryz.prog 74 = true := by kernel_rfl
theorem zero_74 : zeroOf Tryz.prog 74 = some (.agg [.nilPtr, .nilSlice]) := by kernel_rfl
theorem cells_75 : Tryz.prog.cellsOf 75 = 1 := by kernel_rfl
theorem bytes_75 : Tryz.prog.bytesOf 75 = 16 := by kernel_rfl
theorem info_75 : (Tryz.prog.info? 75).isSome = true := by kernel_rfl
theorem agg_75 : aggB Tryz.prog 75 = some false := by kernel_rfl
theorem zero_75 : zeroOf Tryz.prog 75 = some (.nilIface) := by kernel_rfl
theorem cells_76 : Tryz.prog.cellsOf 76 = 1 := by kernel_rfl
theorem bytes_76 : Tryz.prog.bytesOf 76 = 16 := by kernel_rfl
theorem info_76 : (Tryz.prog.info? 76).isSome = true := by kernel_rfl
theorem agg_76 : aggB Tryz.prog 76 = some false := by kernel_rfl
theorem zero_76 : zeroOf Tryz.prog 76 = some (.nilIface) := by kernel_rfl
theorem cells_77 : Tryz.prog.cellsOf 77 = 1 := by kernel_rfl
theorem bytes_77 : Tryz.prog.bytesOf 77 = 0 := by kernel_rfl
theorem info_77 : (Tryz.prog.info? 77).isSome = true := by kernel_rfl
theorem agg_77 : aggB Tryz.prog 77 = some false := by kernel_rfl
theorem zero_77 : zeroOf Tryz.prog 77 = some (.tuple [.int .i64 0, .nilIface]) := by kernel_rfl
theorem cells_78 : Tryz.prog.cellsOf 78 = 1 := by kernel_rfl
theorem bytes_78 : Tryz.prog.bytesOf 78 = 8 := by kernel_rfl
theorem info_78 : (Tryz.prog.info? 78).isSome = true := by kernel_rfl
theorem agg_78 : aggB Tryz.prog 78 = some false := by kernel_rfl
theorem zero_78 : zeroOf Tryz.prog 78 = some (.nilFunc) := by kernel_rfl
theorem cells_79 : Tryz.prog.cellsOf 79 = 1 := by kernel_rfl
theorem bytes_79 : Tryz.prog.bytesOf 79 = 8 := by kernel_rfl
theorem info_79 : (Tryz.prog.info? 79).isSome = true := by kernel_rfl
theorem agg_79 : aggB Tryz.prog 79 = some false := by kernel_rfl
theorem zero_79 : zeroOf Tryz.prog 79 = some (.nilFunc) := by kernel_rfl
theorem cells_80 : Tryz.prog.cellsOf 80 = 1 := by kernel_rfl
theorem bytes_80 : Tryz.prog.bytesOf 80 = 8 := by kernel_rfl
theorem info_80 : (Tryz.prog.info? 80).isSome = true := by kernel_rfl
theorem agg_80 : aggB Tryz.prog 80 = some false := by kernel_rfl
theorem zero_80 : zeroOf Tryz.prog 80 = some (.nilFunc) := by kernel_rfl
theorem cells_81 : Tryz.prog.cellsOf 81 = 1 := by kernel_rfl
theorem bytes_81 : Tryz.prog.bytesOf 81 = 8 := by kernel_rfl
theorem info_81 : (Tryz.prog.info? 81).isSome = true := by kernel_rfl
theorem agg_81 : aggB Tryz.prog 81 = some false := by kernel_rfl
theorem zero_81 : zeroOf Tryz.prog 81 = some (.nilFunc) := by kernel_rfl
theorem cells_82 : Tryz.prog.cellsOf 82 = 1 := by kernel_rfl
theorem bytes_82 : Tryz.prog.bytesOf 82 = 8 := by kernel_rfl
theorem info_82 : (Tryz.prog.info? 82).isSome = true := by kernel_rfl
theorem agg_82 : aggB Tryz.prog 82 = some false := by kernel_rfl
theorem zero_82 : zeroOf Tryz.prog 82 = some (.nilFunc) := by kernel_rfl
theorem cells_83 : Tryz.prog.cellsOf 83 = 1 := by kernel_rfl
theorem bytes_83 : Tryz.prog.bytesOf 83 = 8 := by kernel_rfl
theorem info_83 : (Tryz.prog.info? 83).isSome = true := by kernel_rfl
theorem agg_83 : aggB Tryz.prog 83 = some false := by kernel_rfl
theorem zero_83 : zeroOf Tryz.prog 83 = some (.nilFunc) := by kernel_rfl
theorem cells_84 : Tryz.prog.cellsOf 84 = 1 := by kernel_rfl
theorem bytes_84 : Tryz.prog.bytesOf 84 = 8 := by kernel_rfl
theorem info_84 : (Tryz.prog.info? 84).isSome = true := by kernel_rfl
theorem agg_84 : aggB Tryz.prog 84 = some false := by kernel_rfl
theorem zero_84 : zeroOf Tryz.prog 84 = some (.int .u64 0) := by kernel_rfl
theorem cells_85 : Tryz.prog.cellsOf 85 = 1 := by kernel_rfl
theorem bytes_85 : Tryz.prog.bytesOf 85 = 0 := by kernel_rfl
theorem info_85 : (Tryz.prog.info? 85).isSome = true := by kernel_rfl
theorem agg_85 : aggB Tryz.prog 85 = some false := by kernel_rfl
theorem zero_85 : zeroOf Tryz.prog 85 = some (.tuple [.int .u64 0, .int .u64 0]) := by kernel_rfl
theorem cells_86 : Tryz.prog.cellsOf 86 = 1 := by kernel_rfl
theorem bytes_86 : Tryz.prog.bytesOf 86 = 8 := by kernel_rfl
theorem info_86 : (Tryz.prog.info? 86).isSome = true := by kernel_rfl
theorem agg_86 : aggB Tryz.prog 86 = some false := by kernel_rfl
theorem zero_86 : zeroOf Tryz.prog 86 = some (.nilFunc) := by kernel_rfl
theorem cells_87 : Tryz.prog.cellsOf 87 = 1 := by kernel_rfl
theorem bytes_87 : Tryz.prog.bytesOf 87 = 8 := by kernel_rfl
theorem info_87 : (Tryz.prog.info? 87).isSome = true := by kernel_rfl
theorem agg_87 : aggB Tryz.prog 87 = some false := by kernel_rfl
theorem zero_87 : zeroOf Tryz.prog 87 = some (.nilFunc) := by kernel_rfl
theorem cells_88 : Tryz.prog.cellsOf 88 = 1 := by kernel_rfl
theorem bytes_88 : Tryz.prog.bytesOf 88 = 0 := by kernel_rfl
theorem info_88 : (Tryz.prog.info? 88).isSome = true := by kernel_rfl
theorem agg_88 : aggB Tryz.prog 88 = some false := by kernel_rfl
theorem zero_88 : zeroOf Tryz.prog 88 = some (.tuple [.agg [.int .u8 0, .int .i64 0, .str [], .int .i64 0], .int .i64 0]) := by kernel_rfl
theorem cells_89 : Tryz.prog.cellsOf 89 = 1 := by kernel_rfl
theorem bytes_89 : Tryz.prog.bytesOf 89 = 8 := by kernel_rfl
theorem info_89 : (Tryz.prog.info? 89).isSome = true := by kernel_rfl
theorem agg_89 : aggB Tryz.prog 89 = some false := by kernel_rfl
theorem zero_89 : zeroOf Tryz.prog 89 = some (.nilFunc) := by kernel_rfl
theorem cells_90 : Tryz.prog.cellsOf 90 = 1 := by kernel_rfl
theorem bytes_90 : Tryz.prog.bytesOf 90 = 8 := by kernel_rfl
theorem info_90 : (Tryz.prog.info? 90).isSome = true := by kernel_rfl
theorem agg_90 : aggB Tryz.prog 90 = some false := by kernel_rfl
theorem zero_90 : zeroOf Tryz.prog 90 = some (.nilFunc) := by kernel_rfl
theorem cells_91 : Tryz.prog.cellsOf 91 = 1 := by kernel_rfl
theorem bytes_91 : Tryz.prog.bytesOf 91 = 8 := by kernel_rfl
theorem info_91 : (Tryz.prog.info? 91).isSome = true := by kernel_rfl
theorem agg_91 : aggB Tryz.prog 91 = some false := by kernel_rfl
theorem zero_91 : zeroOf Tryz.prog 91 = some (.nilFunc) := by kernel_rfl
theorem cells_92 : Tryz.prog.cellsOf 92 = 1 := by kernel_rfl
theorem bytes_92 : Tryz.prog.bytesOf 92 = 8 := by kernel_rfl
theorem info_92 : (Tryz.prog.info? 92).isSome = true := by kernel_rfl
theorem agg_92 : aggB Tryz.prog 92 = some false := by kernel_rfl
theorem zero_92 : zeroOf Tryz.prog 92 = some (.nilFunc) := by kernel_rfl
theorem cells_93 : Tryz.prog.cellsOf 93 = 1 := by kernel_rfl
theorem bytes_93 : Tryz.prog.bytesOf 93 = 8 := by kernel_rfl
theorem info_93 : (Tryz.prog.info? 93).isSome = true := by kernel_rfl
theorem agg_93 : aggB Tryz.prog 93 = some false := by kernel_rfl
theorem zero_93 : zeroOf Tryz.prog 93 = some (.nilFunc) := by kernel_rfl
theorem cells_94 : Tryz.prog.cellsOf 94 = 1 := by kernel_rfl
theorem bytes_94 : Tryz.prog.bytesOf 94 = 8 := by kernel_rfl
theorem info_94 : (Tryz.prog.info? 94).isSome = true := by kernel_rfl
theorem agg_94 : aggB Tryz.prog 94 = some false := by kernel_rfl
theorem zero_94 : zeroOf Tryz.prog 94 = some (.nilFunc) := by kernel_rfl
theorem cells_95 : Tryz.prog.cellsOf 95 = 1 := by kernel_rfl
theorem bytes_95 : Tryz.prog.bytesOf 95 = 8 := by kernel_rfl
theorem info_95 : (Tryz.prog.info? 95).isSome = true := by kernel_rfl
theorem agg_95 : aggB Tryz.prog 95 = some false := by kernel_rfl
theorem zero_95 : zeroOf Tryz.prog 95 = some (.nilPtr) := by kernel_rfl
theorem cells_96 : Tryz.prog.cellsOf 96 = 1 := by kernel_rfl
theorem bytes_96 : Tryz.prog.bytesOf 96 = 8 := by kernel_rfl
theorem info_96 : (Tryz.prog.info? 96).isSome = true := by kernel_rfl
theorem agg_96 : aggB Tryz.prog 96 = some false := by kernel_rfl
theorem zero_96 : zeroOf Tryz.prog 96 = some (.nilFunc) := by kernel_rfl
theorem cells_97 : Tryz.prog.cellsOf 97 = 1 := by kernel_rfl
theorem bytes_97 : Tryz.prog.bytesOf 97 = 8 := by kernel_rfl
theorem info_97 : (Tryz.prog.info? 97).isSome = true := by kernel_rfl
theorem agg_97 : aggB Tryz.prog 97 = some false := by kernel_rfl
theorem zero_97 : zeroOf Tryz.prog 97 = some (.nilFunc) := by kernel_rfl
theorem cells_98 : Tryz.prog.cellsOf 98 = 1 := by kernel_rfl
theorem bytes_98 : Tryz.prog.bytesOf 98 = 0 := by kernel_rfl
theorem info_98 : (Tryz.prog.info? 98).isSome = true := by kernel_rfl
theorem agg_98 : aggB Tryz.prog 98 = some false := by kernel_rfl
theorem zero_98 : zeroOf Tryz.prog 98 = some (.tuple [.int .u32 0, .int .u32 0]) := by kernel_rfl
theorem cells_99 : Tryz.prog.cellsOf 99 = 1 := by kernel_rfl
theorem bytes_99 : Tryz.prog.bytesOf 99 = 8 := by kernel_rfl
theorem info_99 : (Tryz.prog.info? 99).isSome = true := by kernel_rfl
theorem agg_99 : aggB Tryz.prog 99 = some false := by kernel_rfl
theorem zero_99 : zeroOf Tryz.prog 99 = some (.nilFunc) := by kernel_rfl
theorem cells_100 : Tryz.prog.cellsOf 100 = 1 := by kernel_rfl
theorem bytes_100 : Tryz.prog.bytesOf 100 = 8 := by kernel_rfl
theorem info_100 : (Tryz.prog.info? 100).isSome = true := by kernel_rfl
theorem agg_100 : aggB Tryz.prog 100 = some false := by kernel_rfl
theorem zero_100 : zeroOf Tryz.prog 100 = some (.int .u64 0) := by kernel_rfl
theorem cells_101 : Tryz.prog.cellsOf 101 = 1 := by kernel_rfl
theorem bytes_101 : Tryz.prog.bytesOf 101 = 0 := by kernel_rfl
theorem info_101 : (Tryz.prog.info? 101).isSome = true := by kernel_rfl
theorem agg_101 : aggB Tryz.prog 101 = some false := by kernel_rfl
theorem zero_101 : zeroOf Tryz.prog 101 = some (.tuple [.int .u64 0, .int .u64 0]) := by kernel_rfl
theorem cells_102 : Tryz.prog.cellsOf 102 = 1 := by kernel_rfl
theorem bytes_102 : Tryz.prog.bytesOf 102 = 8 := by kernel_rfl
theorem info_102 : (Tryz.prog.info? 102).isSome = true := by kernel_rfl
theorem agg_102 : aggB Tryz.prog 102 = some false := by kernel_rfl
theorem zero_102 : zeroOf Tryz.prog 102 = some (.nilFunc) := by kernel_rfl
theorem cells_103 : Tryz.prog.cellsOf 103 = 1 := by kernel_rfl
theorem bytes_103 : Tryz.prog.bytesOf 103 = 8 := by kernel_rfl
theorem info_103 : (Tryz.prog.info? 103).isSome = true := by kernel_rfl
theorem agg_103 : aggB Tryz.prog 103 = some false := by kernel_rfl
theorem zero_103 : zeroOf Tryz.prog 103 = some (.nilFunc) := by kernel_rfl
theorem cells_104 : Tryz.prog.cellsOf 104 = 24 := by kernel_rfl
theorem bytes_104 : Tryz.prog.bytesOf 104 = 24 := by kernel_rfl
theorem info_104 : (Tryz.prog.info? 104).isSome = true := by kernel_rfl
theorem agg_104 : aggB Tryz.prog 104 = some true := by kernel_rfl
theorem bok_104 : buildOk Tryz.prog 104 = true := by kernel_rfl
theorem zero_104 : zeroOf Tryz.prog 104 = some (.agg [.int .u8 0, .int .u8 0, .int .u8 0, .int .u8 0, .int .u8 0, .int .u8 0, .int .u8 0, .int .u8 0, .int .u8 0, .int .u8 0, .int .u8 0, .int .u8 0, .int .u8 0, .int .u8 0, .int .u8 0, .int .u8 0, .int .u8 0, .int .u8 0, .int .u8 0, .int .u8 0, .int .u8 0, .int .u8 0, .int .u8 0, .int .u8 0]) := by kernel_rfl
theorem cells_105 : Tryz.prog.cellsOf 105 = 1 := by kernel_rfl
theorem bytes_105 : Tryz.prog.bytesOf 105 = 8 := by kernel_rfl
theorem info_105 : (Tryz.prog.info? 105).isSome = true := by kernel_rfl
theorem agg_105 : aggB Tryz.prog 105 = some false := by kernel_rfl
theorem zero_105 : zeroOf Tryz.prog 105 = some (.nilFunc) := by kernel_rfl
theorem cells_106 : Tryz.prog.cellsOf 106 = 1 := by kernel_rfl
theorem bytes_106 : Tryz.prog.bytesOf 106 = 8 := by kernel_rfl
theorem info_106 : (Tryz.prog.info? 106).isSome = true := by kernel_rfl
theorem agg_106 : aggB Tryz.prog 106 = some false := by kernel_rfl
theorem zero_106 : zeroOf Tryz.prog 106 = some (.nilFunc) := by kernel_rfl
theorem cells_107 : Tryz.prog.cellsOf 107 = 1 := by kernel_rfl
theorem bytes_107 : Tryz.prog.bytesOf 107 = 0 := by kernel_rfl
theorem info_107 : (Tryz.prog.info? 107).isSome = true := by kernel_rfl
theorem agg_107 : aggB Tryz.prog 107 = some false := by kernel_rfl
theorem zero_107 : zeroOf Tryz.prog 107 = some (.tuple [.nilSlice, .str []]) := by kernel_rfl
theorem cells_108 : Tryz.prog.cellsOf 108 = 1 := by kernel_rfl
theorem bytes_108 : Tryz.prog.bytesOf 108 = 8 := by kernel_rfl
theorem info_108 : (Tryz.prog.info? 108).isSome = true := by kernel_rfl
theorem agg_108 : aggB Tryz.prog 108 = some false := by kernel_rfl
theorem zero_108 : zeroOf Tryz.prog 108 = some (.nilFunc) := by kernel_rfl
theorem cells_109 : Tryz.prog.cellsOf 109 = 1 := by kernel_rfl
theorem bytes_109 : Tryz.prog.bytesOf 109 = 8 := by kernel_rfl
theorem info_109 : (Tryz.prog.info? 109).isSome = true := by kernel_rfl
theorem agg_109 : aggB Tryz.prog 109 = some false := by kernel_rfl
theorem zero_109 : zeroOf Tryz.prog 109 = some (.nilFunc) := by kernel_rfl
theorem cells_110 : Tryz.prog.cellsOf 110 = 1 := by kernel_rfl
theorem bytes_110 : Tryz.prog.bytesOf 110 = 8 := by kernel_rfl
theorem info_110 : (Tryz.prog.info? 110).isSome = true := by kernel_rfl
theorem agg_110 : aggB Tryz.prog 110 = some false := by kernel_rfl
theorem zero_110 : zeroOf Tryz.prog 110 = some (.nilFunc) := by kernel_rfl
theorem cells_111 : Tryz.prog.cellsOf 111 = 256 := by kernel_rfl
theorem bytes_111 : Tryz.prog.bytesOf 111 = 256 := by kernel_rfl
theorem info_111 : (Tryz.prog.info? 111).isSome = true := by kernel_rfl
theorem agg_111 : aggB Tryz.prog 111 = some true := by kernel_rfl
theorem bok_111 : buildOk Tryz.prog 111 = true := by kernel_rfl
theorem cells_112 : Tryz.prog.cellsOf 112 = 1 := by kernel_rfl
theorem bytes_112 : Tryz.prog.bytesOf 112 = 8 := by kernel_rfl
theorem info_112 : (Tryz.prog.info? 112).isSome = true := by kernel_rfl
theorem agg_112 : aggB Tryz.prog 112 = some false := by kernel_rfl
theorem zero_112 : zeroOf Tryz.prog 112 = some (.nilFunc) := by kernel_rfl
theorem cells_113 : Tryz.prog.cellsOf 113 = 1 := by kernel_rfl
theorem bytes_113 : Tryz.prog.bytesOf 113 = 8 := by kernel_rfl
theorem info_113 : (Tryz.prog.info? 113).isSome = true := by kernel_rfl
theorem agg_113 : aggB Tryz.prog 113 = some false := by kernel_rfl
theorem zero_113 : zeroOf Tryz.prog 113 = some (.nilFunc) := by kernel_rfl
theorem cells_114 : Tryz.prog.cellsOf 114 = 1 := by kernel_rfl
theorem bytes_114 : Tryz.prog.bytesOf 114 = 8 := by kernel_rfl
theorem info_114 : (Tryz.prog.info? 114).isSome = true := by kernel_rfl
theorem agg_114 : aggB Tryz.prog 114 = some false := by kernel_rfl
theorem zero_114 : zeroOf Tryz.prog 114 = some (.nilFunc) := by kernel_rfl
theorem cells_115 : Tryz.prog.cellsOf 115 = 1 := by kernel_rfl
theorem bytes_115 : Tryz.prog.bytesOf 115 = 8 := by kernel_rfl
theorem info_115 : (Tryz.prog.info? 115).isSome = true := by kernel_rfl
theorem agg_115 : aggB Tryz.prog 115 = some false := by kernel_rfl
theorem zero_115 : zeroOf Tryz.prog 115 = some (.nilFunc) := by kernel_rfl
theorem cells_116 : Tryz.prog.cellsOf 116 = 1 := by kernel_rfl
theorem bytes_116 : Tryz.prog.bytesOf 116 = 8 := by kernel_rfl
theorem info_116 : (Tryz.prog.info? 116).isSome = true := by kernel_rfl
theorem agg_116 : aggB Tryz.prog 116 = some false := by kernel_rfl
theorem zero_116 : zeroOf Tryz.prog 116 = some (.nilPtr) := by kernel_rfl
theorem cells_117 : Tryz.prog.cellsOf 117 = 1 := by kernel_rfl
theorem bytes_117 : Tryz.prog.bytesOf 117 = 8 := by kernel_rfl
theorem info_117 : (Tryz.prog.info? 117).isSome = true := by kernel_rfl
theorem agg_117 : aggB Tryz.prog 117 = some false := by kernel_rfl
theorem zero_117 : zeroOf Tryz.prog 117 = some (.nilFunc) := by kernel_rfl
theorem cells_118 : Tryz.prog.cellsOf 118 = 1 := by kernel_rfl
theorem bytes_118 : Tryz.prog.bytesOf 118 = 8 := by kernel_rfl
theorem info_118 : (Tryz.prog.info? 118).isSome = true := by kernel_rfl
theorem agg_118 : aggB Tryz.prog 118 = some false := by kernel_rfl
theorem zero_118 : zeroOf Tryz.prog 118 = some (.nilFunc) := by kernel_rfl
theorem cells_119 : Tryz.prog.cellsOf 119 = 256 := by kernel_rfl
theorem bytes_119 : Tryz.prog.bytesOf 119 = 256 := by kernel_rfl
theorem info_119 : (Tryz.prog.info? 119).isSome = true := by kernel_rfl
theorem agg_119 : aggB Tryz.prog 119 = some true := by kernel_rfl
theorem bok_119 : buildOk Tryz.prog 119 = true := by kernel_rfl
theorem cells_120 : Tryz.prog.cellsOf 120 = 256 := by kernel_rfl
theorem bytes_120 : Tryz.prog.bytesOf 120 = 256 := by kernel_rfl
theorem info_120 : (Tryz.prog.info? 120).isSome = true := by kernel_rfl
theorem agg_120 : aggB Tryz.prog 120 = some true := by kernel_rfl
theorem bok_120 : buildOk Tryz.prog 120 = true := by kernel_rfl
theorem cells_121 : Tryz.prog.cellsOf 121 = 1 := by kernel_rfl
theorem bytes_121 : Tryz.prog.bytesOf 121 = 0 := by kernel_rfl
theorem info_121 : (Tryz.prog.info? 121).isSome = true := by kernel_rfl
theorem agg_121 : aggB Tryz.prog 121 = some false := by kernel_rfl
theorem cells_122 : Tryz.prog.cellsOf 122 = 1 := by kernel_rfl
theorem bytes_122 : Tryz.prog.bytesOf 122 = 8 := by kernel_rfl
theorem info_122 : (Tryz.prog.info? 122).isSome = true := by kernel_rfl
theorem agg_122 : aggB Tryz.prog 122 = some false := by kernel_rfl
theorem zero_122 : zeroOf Tryz.prog 122 = some (.nilFunc) := by kernel_rfl
theorem cells_123 : Tryz.prog.cellsOf 123 = 1 := by kernel_rfl
theorem bytes_123 : Tryz.prog.bytesOf 123 = 8 := by kernel_rfl
theorem info_123 : (Tryz.prog.info? 123).isSome = true := by kernel_rfl
theorem agg_123 : aggB Tryz.prog 123 = some false := by kernel_rfl
theorem zero_123 : zeroOf Tryz.prog 123 = some (.nilFunc) := by kernel_rfl
theorem cells_124 : Tryz.prog.cellsOf 124 = 1 := by kernel_rfl
theorem bytes_124 : Tryz.prog.bytesOf 124 = 8 := by kernel_rfl
theorem info_124 : (Tryz.prog.info? 124).isSome = true := by kernel_rfl
theorem agg_124 : aggB Tryz.prog 124 = some false := by kernel_rfl
theorem zero_124 : zeroOf Tryz.prog 124 = some (.nilPtr) := by kernel_rfl
theorem cells_125 : Tryz.prog.cellsOf 125 = 1 := by kernel_rfl
theorem bytes_125 : Tryz.prog.bytesOf 125 = 0 := by kernel_rfl
theorem info_125 : (Tryz.prog.info? 125).isSome = true := by kernel_rfl
theorem agg_125 : aggB Tryz.prog 125 = some false := by kernel_rfl
theorem zero_125 : zeroOf Tryz.prog 125 = some (.tuple [.int .u64 0, .nilIface]) := by kernel_rfl
theorem cells_126 : Tryz.prog.cellsOf 126 = 1 := by kernel_rfl
theorem bytes_126 : Tryz.prog.bytesOf 126 = 8 := by kernel_rfl
theorem info_126 : (Tryz.prog.info? 126).isSome = true := by kernel_rfl
theorem agg_126 : aggB Tryz.prog 126 = some false := by kernel_rfl
theorem zero_126 : zeroOf Tryz.prog 126 = some (.nilFunc) := by kernel_rfl
theorem cells_127 : Tryz.prog.cellsOf 127 = 1 := by kernel_rfl
theorem bytes_127 : Tryz.prog.bytesOf 127 = 8 := by kernel_rfl
theorem info_127 : (Tryz.prog.info? 127).isSome = true := by kernel_rfl
theorem agg_127 : aggB Tryz.prog 127 = some false := by kernel_rfl
theorem zero_127 : zeroOf Tryz.prog 127 = some (.nilFunc) := by kernel_rfl
theorem cells_128 : Tryz.prog.cellsOf 128 = 1 := by kernel_rfl
theorem bytes_128 : Tryz.prog.bytesOf 128 = 8 := by kernel_rfl
theorem info_128 : (Tryz.prog.info? 128).isSome = true := by kernel_rfl
theorem agg_128 : aggB Tryz.prog 128 = some false := by kernel_rfl
theorem zero_128 : zeroOf Tryz.prog 128 = some (.nilFunc) := by kernel_rfl
theorem cells_129 : Tryz.prog.cellsOf 129 = 1 := by kernel_rfl
theorem bytes_129 : Tryz.prog.bytesOf 129 = 8 := by kernel_rfl
theorem info_129 : (Tryz.prog.info? 129).isSome = true := by kernel_rfl
theorem agg_129 : aggB Tryz.prog 129 = some false := by kernel_rfl
theorem zero_129 : zeroOf Tryz.prog 129 = some (.nilFunc) := by kernel_rfl
theorem cells_130 : Tryz.prog.cellsOf 130 = 20 := by kernel_rfl
theorem bytes_130 : Tryz.prog.bytesOf 130 = 160 := by kernel_rfl
theorem info_130 : (Tryz.prog.info? 130).isSome = true := by kernel_rfl
theorem agg_130 : aggB Tryz.prog 130 = some true := by kernel_rfl
theorem bok_130 : buildOk Tryz.prog 130 = true := by kernel_rfl
theorem zero_130 : zeroOf Tryz.prog 130 = some (.agg [.int .u64 0, .int .u64 0, .int .u64 0, .int .u64 0, .int .u64 0, .int .u64 0, .int .u64 0, .int .u64 0, .int .u64 0, .int .u64 0, .int .u64 0, .int .u64 0, .int .u64 0, .int .u64 0, .int .u64 0, .int .u64 0, .int .u64 0, .int .u64 0, .int .u64 0, .int .u64 0]) := by kernel_rfl
theorem cells_131 : Tryz.prog.cellsOf 131 = 65 := by kernel_rfl
theorem bytes_131 : Tryz.prog.bytesOf 131 = 65 := by kernel_rfl
theorem info_131 : (Tryz.prog.info? 131).isSome = true := by kernel_rfl
theorem agg_131 : aggB Tryz.prog 131 = some true := by kernel_rfl
theorem bok_131 : buildOk Tryz.prog 131 = true := by kernel_rfl
theorem zero_131 : zeroOf Tryz.prog 131 = some (.agg [.int .u8 0, .int .u8 0, .int .u8 0, .int .u8 0, .int .u8 0, .int .u8 0, .int .u8 0, .int .u8 0, .int .u8 0, .int .u8 0, .int .u8 0, .int .u8 0, .int .u8 0, .int .u8 0, .int .u8 0, .int .u8 0, .int .u8 0, .int .u8 0, .int .u8 0, .int .u8 0, .int .u8 0, .int .u8 0, .int .u8 0, .int .u8 0, .int .u8 0, .int .u8 0, .int .u8 0, .int .u8 0, .int .u8 0, .int .u8 0, .int .u8 0, .int .u8 0, .int .u8 0, .int .u8 0, .int .u8 0, .int .u8 0, .int .u8 0, .int .u8 0, .int .u8 0, .int .u8 0, .int .u8 0, .int .u8 0, .int .u8 0, .int .u8 0, .int .u8 0, .int .u8 0, .int .u8 0, .int .u8 0, .int .u8 0, .int .u8 0, .int .u8 0, .int .u8 0, .int .u8 0, .int .u8 0, .int .u8 0, .int .u8 0, .int .u8 0, .int .u8 0, .int .u8 0, .int .u8 0, .int .u8 0, .int .u8 0, .int .u8 0, .int .u8 0, .int .u8 0]) := by kernel_rfl
theorem cells_132 : Tryz.prog.cellsOf 132 = 1 := by kernel_rfl
theorem bytes_132 : Tryz.prog.bytesOf 132 = 8 := by kernel_rfl
theorem info_132 : (Tryz.prog.info? 132).isSome = true := by kernel_rfl
theorem agg_132 : aggB Tryz.prog 132 = some false := by kernel_rfl
theorem zero_132 : zeroOf Tryz.prog 132 = some (.nilFunc) := by kernel_rfl
theorem cells_133 : Tryz.prog.cellsOf 133 = 1 := by kernel_rfl
theorem bytes_133 : Tryz.prog.bytesOf 133 = 8 := by kernel_rfl
theorem info_133 : (Tryz.prog.info? 133).isSome = true := by kernel_rfl
theorem agg_133 : aggB Tryz.prog 133 = some false := by kernel_rfl
theorem zero_133 : zeroOf Tryz.prog 133 = some (.nilFunc) := by kernel_rfl
theorem cells_134 : Tryz.prog.cellsOf 134 = 1 := by kernel_rfl
theorem bytes_134 : Tryz.prog.bytesOf 134 = 0 := by kernel_rfl
theorem info_134 : (Tryz.prog.info? 134).isSome = true := by kernel_rfl
theorem agg_134 : aggB Tryz.prog 134 = some false := by kernel_rfl
theorem zero_134 : zeroOf Tryz.prog 134 = some (.tuple [.int .i32 0, .int .i64 0]) := by kernel_rfl
theorem cells_135 : Tryz.prog.cellsOf 135 = 1 := by kernel_rfl
theorem bytes_135 : Tryz.prog.bytesOf 135 = 8 := by kernel_rfl
theorem info_135 : (Tryz.prog.info? 135).isSome = true := by kernel_rfl
theorem agg_135 : aggB Tryz.prog 135 = some false := by kernel_rfl
theorem zero_135 : zeroOf Tryz.prog 135 = some (.nilFunc) := by kernel_rfl
theorem cells_136 : Tryz.prog.cellsOf 136 = 1 := by kernel_rfl
theorem bytes_136 : Tryz.prog.bytesOf 136 = 24 := by kernel_rfl
theorem info_136 : (Tryz.prog.info? 136).isSome = true := by kernel_rfl
theorem agg_136 : aggB Tryz.prog 136 = some false := by kernel_rfl
theorem zero_136 : zeroOf Tryz.prog 136 = some (.nilSlice) := by kernel_rfl
theorem cells_137 : Tryz.prog.cellsOf 137 = 2 := by kernel_rfl
theorem bytes_137 : Tryz.prog.bytesOf 137 = 16 := by kernel_rfl
theorem info_137 : (Tryz.prog.info? 137).isSome = true := by kernel_rfl
theorem agg_137 : aggB Tryz.prog 137 = some true := by kernel_rfl
theorem bok_137 : buildOk Tryz.prog 137 = true := by kernel_rfl
theorem zero_137 : zeroOf Tryz.prog 137 = some (.agg [.int .i64 0, .int .i64 0]) := by kernel_rfl
theorem cells_138 : Tryz.prog.cellsOf 138 = 2 := by kernel_rfl
theorem bytes_138 : Tryz.prog.bytesOf 138 = 16 := by kernel_rfl
theorem info_138 : (Tryz.prog.info? 138).isSome = true := by kernel_rfl
theorem agg_138 : aggB Tryz.prog 138 = some true := by kernel_rfl
theorem bok_138 : buildOk Tryz.prog 138 = true := by kernel_rfl
theorem zero_138 : zeroOf Tryz.prog 138 = some (.agg [.int .i64 0, .int .i64 0]) := by kernel_rfl
theorem cells_139 : Tryz.prog.cellsOf 139 = 1 := by kernel_rfl
theorem bytes_139 : Tryz.prog.bytesOf 139 = 8 := by kernel_rfl
theorem info_139 : (Tryz.prog.info? 139).isSome = true := by kernel_rfl
theorem agg_139 : aggB Tryz.prog 139 = some false := by kernel_rfl
theorem zero_139 : zeroOf Tryz.prog 139 = some (.nilFunc) := by kernel_rfl
theorem cells_140 : Tryz.prog.cellsOf 140 = 1 := by kernel_rfl
theorem bytes_140 : Tryz.prog.bytesOf 140 = 8 := by kernel_rfl
theorem info_140 : (Tryz.prog.info? 140).isSome = true := by kernel_rfl
theorem agg_140 : aggB Tryz.prog 140 = some false := by kernel_rfl
theorem zero_140 : zeroOf Tryz.prog 140 = some (.nilPtr) := by kernel_rfl
theorem cells_141 : Tryz.prog.cellsOf 141 = 1 := by kernel_rfl
theorem bytes_141 : Tryz.prog.bytesOf 141 = 8 := by kernel_rfl
theorem info_141 : (Tryz.prog.info? 141).isSome = true := by kernel_rfl
theorem agg_141 : aggB Tryz.prog 141 = some false := by kernel_rfl
theorem zero_141 : zeroOf Tryz.prog 141 = some (.nilFunc) := by kernel_rfl
theorem cells_142 : Tryz.prog.cellsOf 142 = 1 := by kernel_rfl
theorem bytes_142 : Tryz.prog.bytesOf 142 = 8 := by kernel_rfl
theorem info_142 : (Tryz.prog.info? 142).isSome = true := by kernel_rfl
theorem agg_142 : aggB Tryz.prog 142 = some false := by kernel_rfl
theorem zero_142 : zeroOf Tryz.prog 142 = some (.nilFunc) := by kernel_rfl
theorem cells_143 : Tryz.prog.cellsOf 143 = 1 := by kernel_rfl
theorem bytes_143 : Tryz.prog.bytesOf 143 = 8 := by kernel_rfl
theorem info_143 : (Tryz.prog.info? 143).isSome = true := by kernel_rfl
theorem agg_143 : aggB Tryz.prog 143 = some false := by kernel_rfl
theorem zero_143 : zeroOf Tryz.prog 143 = some (.nilFunc) := by kernel_rfl
theorem cells_144 : Tryz.prog.cellsOf 144 = 1 := by kernel_rfl
theorem bytes_144 : Tryz.prog.bytesOf 144 = 8 := by kernel_rfl
theorem info_144 : (Tryz.prog.info? 144).isSome = true := by kernel_rfl
theorem agg_144 : aggB Tryz.prog 144 = some false := by kernel_rfl
theorem zero_144 : zeroOf Tryz.prog 144 = some (.nilFunc) := by kernel_rfl
theorem cells_145 : Tryz.prog.cellsOf 145 = 1 := by kernel_rfl
theorem bytes_145 : Tryz.prog.bytesOf 145 = 24 := by kernel_rfl
theorem info_145 : (Tryz.prog.info? 145).isSome = true := by kernel_rfl
theorem agg_145 : aggB Tryz.prog 145 = some false := by kernel_rfl
theorem zero_145 : zeroOf Tryz.prog 145 = some (.nilSlice) := by kernel_rfl
theorem cells_146 : Tryz.prog.cellsOf 146 = 1 := by kernel_rfl
theorem bytes_146 : Tryz.prog.bytesOf 146 = 24 := by kernel_rfl
theorem info_146 : (Tryz.prog.info? 146).isSome = true := by kernel_rfl
theorem agg_146 : aggB Tryz.prog 146 = some false := by kernel_rfl
theorem zero_146 : zeroOf Tryz.prog 146 = some (.nilSlice) := by kernel_rfl
theorem cells_147 : Tryz.prog.cellsOf 147 = 3 := by kernel_rfl
theorem bytes_147 : Tryz.prog.bytesOf 147 = 56 := by kernel_rfl
theorem info_147 : (Tryz.prog.info? 147).isSome = true := by kernel_rfl
theorem agg_147 : aggB Tryz.prog 147 = some true := by kernel_rfl
theorem bok_147 : buildOk Tryz.prog 147 = true := by kernel_rfl
theorem zero_147 : zeroOf Tryz.prog 147 = some (.agg [.nilSlice, .nilSlice, .int .i64 0]) := by kernel_rfl
theorem cells_148 : Tryz.prog.cellsOf 148 = 3 := by kernel_rfl
theorem bytes_148 : Tryz.prog.bytesOf 148 = 56 := by kernel_rfl
theorem info_148 : (Tryz.prog.info? 148).isSome = true := by kernel_rfl
theorem agg_148 : aggB Tryz.prog 148 = some true := by kernel_rfl
theorem bok_148 : buildOk Tryz.prog 148 = true := by kernel_rfl
theorem zero_148 : zeroOf Tryz.prog 148 = some (.agg [.nilSlice, .nilSlice, .int .i64 0]) := by kernel_rfl
theorem cells_149 : Tryz.prog.cellsOf 149 = 3 := by kernel_rfl
theorem bytes_149 : Tryz.prog.bytesOf 149 = 6 := by kernel_rfl
theorem info_149 : (Tryz.prog.info? 149).isSome = true := by kernel_rfl
theorem agg_149 : aggB Tryz.prog 149 = some true := by kernel_rfl
theorem bok_149 : buildOk Tryz.prog 149 = true := by kernel_rfl
theorem zero_149 : zeroOf Tryz.prog 149 = some (.agg [.int .u16 0, .int .u16 0, .int .u16 0]) := by kernel_rfl
theorem cells_150 : Tryz.prog.cellsOf 150 = 3 := by kernel_rfl
theorem bytes_150 : Tryz.prog.bytesOf 150 = 6 := by kernel_rfl
theorem info_150 : (Tryz.prog.info? 150).isSome = true := by kernel_rfl
theorem agg_150 : aggB Tryz.prog 150 = some true := by kernel_rfl
theorem bok_150 : buildOk Tryz.prog 150 = true := by kernel_rfl
theorem zero_150 : zeroOf Tryz.prog 150 = some (.agg [.int .u16 0, .int .u16 0, .int .u16 0]) := by kernel_rfl
theorem cells_151 : Tryz.prog.cellsOf 151 = 1 := by kernel_rfl
theorem bytes_151 : Tryz.prog.bytesOf 151 = 8 := by kernel_rfl
theorem info_151 : (Tryz.prog.info? 151).isSome = true := by kernel_rfl
theorem agg_151 : aggB Tryz.prog 151 = some false := by kernel_rfl
theorem zero_151 : zeroOf Tryz.prog 151 = some (.nilFunc) := by kernel_rfl
theorem cells_152 : Tryz.prog.cellsOf 152 = 3 := by kernel_rfl
theorem bytes_152 : Tryz.prog.bytesOf 152 = 12 := by kernel_rfl
theorem info_152 : (Tryz.prog.info? 152).isSome = true := by kernel_rfl
theorem agg_152 : aggB Tryz.prog 152 = some true := by kernel_rfl
theorem bok_152 : buildOk Tryz.prog 152 = true := by kernel_rfl
theorem zero_152 : zeroOf Tryz.prog 152 = some (.agg [.int .u32 0, .int .u32 0, .int .u32 0]) := by kernel_rfl
theorem cells_153 : Tryz.prog.cellsOf 153 = 3 := by kernel_rfl
theorem bytes_153 : Tryz.prog.bytesOf 153 = 12 := by kernel_rfl
theorem info_153 : (Tryz.prog.info? 153).isSome = true := by kernel_rfl
theorem agg_153 : aggB Tryz.prog 153 = some true := by kernel_rfl
theorem bok_153 : buildOk Tryz.prog 153 = true := by kernel_rfl
theorem zero_153 : zeroOf Tryz.prog 153 = some (.agg [.int .u32 0, .int .u32 0, .int .u32 0]) := by kernel_rfl
theorem cells_154 : Tryz.prog.cellsOf 154 = 1 := by kernel_rfl
theorem bytes_154 : Tryz.prog.bytesOf 154 = 8 := by kernel_rfl
theorem info_154 : (Tryz.prog.info? 154).isSome = true := by kernel_rfl
theorem agg_154 : aggB Tryz.prog 154 = some false := by kernel_rfl
theorem zero_154 : zeroOf Tryz.prog 154 = some (.nilFunc) := by kernel_rfl
theorem cells_155 : Tryz.prog.cellsOf 155 = 1 := by kernel_rfl
theorem bytes_155 : Tryz.prog.bytesOf 155 = 8 := by kernel_rfl
theorem info_155 : (Tryz.prog.info? 155).isSome = true := by kernel_rfl
theorem agg_155 : aggB Tryz.prog 155 = some false := by kernel_rfl
theorem zero_155 : zeroOf Tryz.prog 155 = some (.nilFunc) := by kernel_rfl
theorem cells_156 : Tryz.prog.cellsOf 156 = 1 := by kernel_rfl
theorem bytes_156 : Tryz.prog.bytesOf 156 = 8 := by kernel_rfl
theorem info_156 : (Tryz.prog.info? 156).isSome = true := by kernel_rfl
theorem agg_156 : aggB Tryz.prog 156 = some false := by kernel_rfl
theorem zero_156 : zeroOf Tryz.prog 156 = some (.int .i64 0) := by kernel_rfl
theorem cells_157 : Tryz.prog.cellsOf 157 = 1 := by kernel_rfl
theorem bytes_157 : Tryz.prog.bytesOf 157 = 8 := by kernel_rfl
theorem info_157 : (Tryz.prog.info? 157).isSome = true := by kernel_rfl
theorem agg_157 : aggB Tryz.prog 157 = some false := by kernel_rfl
theorem zero_157 : zeroOf Tryz.prog 157 = some (.nilFunc) := by kernel_rfl
theorem cells_158 : Tryz.prog.cellsOf 158 = 1 := by kernel_rfl
theorem bytes_158 : Tryz.prog.bytesOf 158 = 8 := by kernel_rfl
theorem info_158 : (Tryz.prog.info? 158).isSome = true := by kernel_rfl
theorem agg_158 : aggB Tryz.prog 158 = some false := by kernel_rfl
theorem zero_158 : zeroOf Tryz.prog 158 = some (.nilPtr) := by kernel_rfl
theorem cells_159 : Tryz.prog.cellsOf 159 = 1 := by kernel_rfl
theorem bytes_159 : Tryz.prog.bytesOf 159 = 8 := by kernel_rfl
theorem info_159 : (Tryz.prog.info? 159).isSome = true := by kernel_rfl
theorem agg_159 : aggB Tryz.prog 159 = some false := by kernel_rfl
theorem zero_159 : zeroOf Tryz.prog 159 = some (.nilFunc) := by kernel_rfl
theorem cells_160 : Tryz.prog.cellsOf 160 = 1 := by kernel_rfl
theorem bytes_160 : Tryz.prog.bytesOf 160 = 8 := by kernel_rfl
theorem info_160 : (Tryz.prog.info? 160).isSome = true := by kernel_rfl
theorem agg_160 : aggB Tryz.prog 160 = some false := by kernel_rfl
theorem zero_160 : zeroOf Tryz.prog 160 = some (.nilFunc) := by kernel_rfl
theorem cells_161 : Tryz.prog.cellsOf 161 = 32 := by kernel_rfl
theorem bytes_161 : Tryz.prog.bytesOf 161 = 32 := by kernel_rfl
theorem info_161 : (Tryz.prog.info? 161).isSome = true := by kernel_rfl
theorem agg_161 : aggB Tryz.prog 161 = some true := by kernel_rfl
theorem bok_161 : buildOk Tryz.prog 161 = true := by kernel_rfl
theorem zero_161 : zeroOf Tryz.prog 161 = some (.agg [.int .u8 0, .int .u8 0, .int .u8 0, .int .u8 0, .int .u8 0, .int .u8 0, .int .u8 0, .int .u8 0, .int .u8 0, .int .u8 0, .int .u8 0, .int .u8 0, .int .u8 0, .int .u8 0, .int .u8 0, .int .u8 0, .int .u8 0, .int .u8 0, .int .u8 0, .int .u8 0, .int .u8 0, .int .u8 0, .int .u8 0, .int .u8 0, .int .u8 0, .int .u8 0, .int .u8 0, .int .u8 0, .int .u8 0, .int .u8 0, .int .u8 0, .int .u8 0]) := by kernel_rfl
theorem cells_162 : Tryz.prog.cellsOf 162 = 64 := by kernel_rfl
theorem bytes_162 : Tryz.prog.bytesOf 162 = 64 := by kernel_rfl
theorem info_162 : (Tryz.prog.info? 162).isSome = true := by kernel_rfl
theorem agg_162 : aggB Tryz.prog 162 = some true := by kernel_rfl
theorem bok_162 : buildOk Tryz.prog 162 = true := by kernel_rfl
theorem zero_162 : zeroOf Tryz.prog 162 = some (.agg [.int .u8 0, .int .u8 0, .int .u8 0, .int .u8 0, .int .u8 0, .int .u8 0, .int .u8 0, .int .u8 0, .int .u8 0, .int .u8 0, .int .u8 0, .int .u8 0, .int .u8 0, .int .u8 0, .int .u8 0, .int .u8 0, .int .u8 0, .int .u8 0, .int .u8 0, .int .u8 0, .int .u8 0, .int .u8 0, .int .u8 0, .int .u8 0, .int .u8 0, .int .u8 0, .int .u8 0, .int .u8 0, .int .u8 0, .int .u8 0, .int .u8 0, .int .u8 0, .int .u8 0, .int .u8 0, .int .u8 0, .int .u8 0, .int .u8 0, .int .u8 0, .int .u8 0, .int .u8 0, .int .u8 0, .int .u8 0, .int .u8 0, .int .u8 0, .int .u8 0, .int .u8 0, .int .u8 0, .int .u8 0, .int .u8 0, .int .u8 0, .int .u8 0, .int .u8 0, .int .u8 0, .int .u8 0, .int .u8 0, .int .u8 0, .int .u8 0, .int .u8 0, .int .u8 0, .int .u8 0, .int .u8 0, .int .u8 0, .int .u8 0, .int .u8 0]) := by kernel_rfl
theorem cells_163 : Tryz.prog.cellsOf 163 = 2 := by kernel_rfl
theorem bytes_163 : Tryz.prog.bytesOf 163 = 2 := by kernel_rfl
theorem info_163 : (Tryz.prog.info? 163).isSome = true := by kernel_rfl
theorem agg_163 : aggB Tryz.prog 163 = some true := by kernel_rfl
theorem bok_163 : buildOk Tryz.prog 163 = true := by kernel_rfl
theorem zero_163 : zeroOf Tryz.prog 163 = some (.agg [.int .u8 0, .int .u8 0]) := by kernel_rfl
theorem cells_164 : Tryz.prog.cellsOf 164 = 2 := by kernel_rfl
theorem bytes_164 : Tryz.prog.bytesOf 164 = 2 := by kernel_rfl
theorem info_164 : (Tryz.prog.info? 164).isSome = true := by kernel_rfl
theorem agg_164 : aggB Tryz.prog 164 = some true := by kernel_rfl
theorem bok_164 : buildOk Tryz.prog 164 = true := by kernel_rfl
theorem zero_164 : zeroOf Tryz.prog 164 = some (.agg [.int .u8 0, .int .u8 0]) := by kernel_rfl
theorem cells_165 : Tryz.prog.cellsOf 165 = 32 := by kernel_rfl
theorem bytes_165 : Tryz.prog.bytesOf 165 = 32 := by kernel_rfl
theorem info_165 : (Tryz.prog.info? 165).isSome = true := by kernel_rfl
theorem agg_165 : aggB Tryz.prog 165 = some true := by kernel_rfl
theorem bok_165 : buildOk Tryz.prog 165 = true := by kernel_rfl
theorem zero_165 : zeroOf Tryz.prog 165 = some (.agg [.int .u8 0, .int .u8 0, .int .u8 0, .int .u8 0, .int .u8 0, .int .u8 0, .int .u8 0, .int .u8 0, .int .u8 0, .int .u8 0, .int .u8 0, .int .u8 0, .int .u8 0, .int .u8 0, .int .u8 0, .int .u8 0, .int .u8 0, .int .u8 0, .int .u8 0, .int .u8 0, .int .u8 0, .int .u8 0, .int .u8 0, .int .u8 0, .int .u8 0, .int .u8 0, .int .u8 0, .int .u8 0, .int .u8 0, .int .u8 0, .int .u8 0, .int .u8 0]) := by kernel_rfl
theorem cells_166 : Tryz.prog.cellsOf 166 = 1 := by kernel_rfl
theorem bytes_166 : Tryz.prog.bytesOf 166 = 8 := by kernel_rfl
theorem info_166 : (Tryz.prog.info? 166).isSome = true := by kernel_rfl
theorem agg_166 : aggB Tryz.prog 166 = some false := by kernel_rfl
theorem zero_166 : zeroOf Tryz.prog 166 = some (.nilPtr) := by kernel_rfl
theorem cells_167 : Tryz.prog.cellsOf 167 = 1 := by kernel_rfl
theorem bytes_167 : Tryz.prog.bytesOf 167 = 8 := by kernel_rfl
theorem info_167 : (Tryz.prog.info? 167).isSome = true := by kernel_rfl
theorem agg_167 : aggB Tryz.prog 167 = some false := by kernel_rfl
theorem zero_167 : zeroOf Tryz.prog 167 = some (.nilPtr) := by kernel_rfl
theorem cells_168 : Tryz.prog.cellsOf 168 = 3 := by kernel_rfl
theorem bytes_168 : Tryz.prog.bytesOf 168 = 48 := by kernel_rfl
theorem info_168 : (Tryz.prog.info? 168).isSome = true := by kernel_rfl
theorem agg_168 : aggB Tryz.prog 168 = some true := by kernel_rfl
theorem bok_168 : buildOk Tryz.prog 168 = true := by kernel_rfl
theorem zero_168 : zeroOf Tryz.prog 168 = some (.agg [.str [], .str [], .nilIface]) := by kernel_rfl
theorem cells_169 : Tryz.prog.cellsOf 169 = 3 := by kernel_rfl
theorem bytes_169 : Tryz.prog.bytesOf 169 = 48 := by kernel_rfl
theorem info_169 : (Tryz.prog.info? 169).isSome = true := by kernel_rfl
theorem agg_169 : aggB Tryz.prog 169 = some true := by kernel_rfl
theorem bok_169 : buildOk Tryz.prog 169 = true := by kernel_rfl
theorem zero_169 : zeroOf Tryz.prog 169 = some (.agg [.str [], .str [], .nilIface]) := by kernel_rfl
theorem cells_170 : Tryz.prog.cellsOf 170 = 1 := by kernel_rfl
theorem bytes_170 : Tryz.prog.bytesOf 170 = 8 := by kernel_rfl
theorem info_170 : (Tryz.prog.info? 170).isSome = true := by kernel_rfl
theorem agg_170 : aggB Tryz.prog 170 = some false := by kernel_rfl
theorem zero_170 : zeroOf Tryz.prog 170 = some (.nilFunc) := by kernel_rfl
theorem cells_171 : Tryz.prog.cellsOf 171 = 1 := by kernel_rfl
theorem bytes_171 : Tryz.prog.bytesOf 171 = 8 := by kernel_rfl
theorem info_171 : (Tryz.prog.info? 171).isSome = true := by kernel_rfl
theorem agg_171 : aggB Tryz.prog 171 = some false := by kernel_rfl
theorem zero_171 : zeroOf Tryz.prog 171 = some (.nilPtr) := by kernel_rfl
theorem cells_172 : Tryz.prog.cellsOf 172 = 1 := by kernel_rfl
theorem bytes_172 : Tryz.prog.bytesOf 172 = 16 := by kernel_rfl
theorem info_172 : (Tryz.prog.info? 172).isSome = true := by kernel_rfl
theorem agg_172 : aggB Tryz.prog 172 = some true := by kernel_rfl
theorem bok_172 : buildOk Tryz.prog 172 = true := by kernel_rfl
theorem zero_172 : zeroOf Tryz.prog 172 = some (.agg [.str []]) := by kernel_rfl
theorem cells_173 : Tryz.prog.cellsOf 173 = 1 := by kernel_rfl
theorem bytes_173 : Tryz.prog.bytesOf 173 = 16 := by kernel_rfl
theorem info_173 : (Tryz.prog.info? 173).isSome = true := by kernel_rfl
theorem agg_173 : aggB Tryz.prog 173 = some true := by kernel_rfl
theorem bok_173 : buildOk Tryz.prog 173 = true := by kernel_rfl
theorem zero_173 : zeroOf Tryz.prog 173 = some (.agg [.str []]) := by kernel_rfl
theorem cells_174 : Tryz.prog.cellsOf 174 = 4 := by kernel_rfl
theorem bytes_174 : Tryz.prog.bytesOf 174 = 40 := by kernel_rfl
theorem info_174 : (Tryz.prog.info? 174).isSome = true := by kernel_rfl
theorem agg_174 : aggB Tryz.prog 174 = some true := by kernel_rfl
theorem bok_174 : buildOk Tryz.prog 174 = true := by kernel_rfl
theorem zero_174 : zeroOf Tryz.prog 174 = some (.agg [.nilPtr, .nilPtr, .nilPtr, .str []]) := by kernel_rfl
theorem cells_175 : Tryz.prog.cellsOf 175 = 4 := by kernel_rfl
theorem bytes_175 : Tryz.prog.bytesOf 175 = 40 := by kernel_rfl
theorem info_175 : (Tryz.prog.info? 175).isSome = true := by kernel_rfl
theorem agg_175 : aggB Tryz.prog 175 = some true := by kernel_rfl
theorem bok_175 : buildOk Tryz.prog 175 = true := by kernel_rfl
theorem zero_175 : zeroOf Tryz.prog 175 = some (.agg [.nilPtr, .nilPtr, .nilPtr, .str []]) := by kernel_rfl
theorem cells_176 : Tryz.prog.cellsOf 176 = 0 := by kernel_rfl
theorem bytes_176 : Tryz.prog.bytesOf 176 = 0 := by kernel_rfl
theorem info_176 : (Tryz.prog.info? 176).isSome = true := by kernel_rfl
theorem agg_176 : aggB Tryz.prog 176 = some true := by kernel_rfl
theorem bok_176 : buildOk Tryz.prog 176 = true := by kernel_rfl
theorem zero_176 : zeroOf Tryz.prog 176 = some (.agg []) := by kernel_rfl
theorem cells_177 : Tryz.prog.cellsOf 177 = 0 := by kernel_rfl
theorem bytes_177 : Tryz.prog.bytesOf 177 = 0 := by kernel_rfl
theorem info_177 : (Tryz.prog.info? 177).isSome = true := by kernel_rfl
theorem agg_177 : aggB Tryz.prog 177 = some true := by kernel_rfl
theorem bok_177 : buildOk Tryz.prog 177 = true := by kernel_rfl
theorem zero_177 : zeroOf Tryz.prog 177 = some (.agg []) := by kernel_rfl
theorem cells_178 : Tryz.prog.cellsOf 178 = 0 := by kernel_rfl
theorem bytes_178 : Tryz.prog.bytesOf 178 = 0 := by kernel_rfl
theorem info_178 : (Tryz.prog.info? 178).isSome = true := by kernel_rfl
theorem agg_178 : aggB Tryz.prog 178 = some true := by kernel_rfl
theorem bok_178 : buildOk Tryz.prog 178 = true := by kernel_rfl
theorem zero_178 : zeroOf Tryz.prog 178 = some (.agg []) := by kernel_rfl
theorem cells_179 : Tryz.prog.cellsOf 179 = 1 := by kernel_rfl
theorem bytes_179 : Tryz.prog.bytesOf 179 = 1 := by kernel_rfl
theorem info_179 : (Tryz.prog.info? 179).isSome = true := by kernel_rfl
theorem agg_179 : aggB Tryz.prog 179 = some false := by kernel_rfl
theorem zero_179 : zeroOf Tryz.prog 179 = some (.int .u8 0) := by kernel_rfl
theorem cells_180 : Tryz.prog.cellsOf 180 = 1 := by kernel_rfl
theorem bytes_180 : Tryz.prog.bytesOf 180 = 1 := by kernel_rfl
theorem info_180 : (Tryz.prog.info? 180).isSome = true := by kernel_rfl
theorem agg_180 : aggB Tryz.prog 180 = some false := by kernel_rfl
theorem zero_180 : zeroOf Tryz.prog 180 = some (.int .u8 0) := by kernel_rfl
theorem cells_181 : Tryz.prog.cellsOf 181 = 1 := by kernel_rfl
theorem bytes_181 : Tryz.prog.bytesOf 181 = 8 := by kernel_rfl
theorem info_181 : (Tryz.prog.info? 181).isSome = true := by kernel_rfl
theorem agg_181 : aggB Tryz.prog 181 = some false := by kernel_rfl
theorem zero_181 : zeroOf Tryz.prog 181 = some (.nilFunc) := by kernel_rfl
theorem cells_182 : Tryz.prog.cellsOf 182 = 1 := by kernel_rfl
theorem bytes_182 : Tryz.prog.bytesOf 182 = 4 := by kernel_rfl
theorem info_182 : (Tryz.prog.info? 182).isSome = true := by kernel_rfl
theorem agg_182 : aggB Tryz.prog 182 = some false := by kernel_rfl
theorem zero_182 : zeroOf Tryz.prog 182 = some (.int .i32 0) := by kernel_rfl
theorem cells_183 : Tryz.prog.cellsOf 183 = 1 := by kernel_rfl
theorem bytes_183 : Tryz.prog.bytesOf 183 = 4 := by kernel_rfl
theorem info_183 : (Tryz.prog.info? 183).isSome = true := by kernel_rfl
theorem agg_183 : aggB Tryz.prog 183 = some false := by kernel_rfl
theorem zero_183 : zeroOf Tryz.prog 183 = some (.int .i32 0) := by kernel_rfl
theorem cells_184 : Tryz.prog.cellsOf 184 = 11 := by kernel_rfl
theorem bytes_184 : Tryz.prog.bytesOf 184 = 48 := by kernel_rfl
theorem info_184 : (Tryz.prog.info? 184).isSome = true := by kernel_rfl
theorem agg_184 : aggB Tryz.prog 184 = some true := by kernel_rfl
theorem bok_184 : buildOk Tryz.prog 184 = true := by kernel_rfl
theorem zero_184 : zeroOf Tryz.prog 184 = some (.agg [.int .u64 0, .int .u64 0, .int .u32 0, .int .u8 0, .int .u8 0, .int .u8 0, .int .u8 0, .nilFunc, .nilPtr, .int .i32 0, .int .i32 0]) := by kernel_rfl
theorem cells_185 : Tryz.prog.cellsOf 185 = 11 := by kernel_rfl
theorem bytes_185 : Tryz.prog.bytesOf 185 = 48 := by kernel_rfl
theorem info_185 : (Tryz.prog.info? 185).isSome = true := by kernel_rfl
theorem agg_185 : aggB Tryz.prog 185 = some true := by kernel_rfl
theorem bok_185 : buildOk Tryz.prog 185 = true := by kernel_rfl
theorem zero_185 : zeroOf Tryz.prog 185 = some (.agg [.int .u64 0, .int .u64 0, .int .u32 0, .int .u8 0, .int .u8 0, .int .u8 0, .int .u8 0, .nilFunc, .nilPtr, .int .i32 0, .int .i32 0]) := by kernel_rfl
attribute [go_sem] cells_0 bytes_0 info_0 agg_0 zero_0 Tryz.underlying0 cells_1 bytes_1 info_1 agg_1 zero_1 Tryz.underlying1
attribute [go_sem] cells_2 bytes_2 info_2 agg_2 zero_2 Tryz.underlying2 cells_3 bytes_3 info_3 agg_3 zero_3 Tryz.underlying3
attribute [go_sem] cells_4 bytes_4 info_4 agg_4 zero_4 Tryz.underlying4 cells_5 bytes_5 info_5 agg_5 zero_5 Tryz.underlying5
attribute [go_sem] cells_6 bytes_6 info_6 agg_6 zero_6 Tryz.underlying6 cells_7 bytes_7 info_7 agg_7 bok_7 Tryz.eqGuardType7
attribute [go_sem] Tryz.stoodInHeld7 zero_7 Tryz.underlying7 cells_8 bytes_8 info_8 agg_8 bok_8 Tryz.eqGuardType8 Tryz.stoodInHeld8 zero_8 Tryz.underlying8
attribute [go_sem] cells_9 bytes_9 info_9 agg_9 zero_9 Tryz.underlying9 cells_10 bytes_10 info_10 agg_10 zero_10 Tryz.underlying10
attribute [go_sem] cells_11 bytes_11 info_11 agg_11 zero_11 Tryz.underlying11 cells_12 bytes_12 info_12 agg_12 zero_12 Tryz.underlying12
attribute [go_sem] cells_13 bytes_13 info_13 agg_13 bok_13 Tryz.eqGuardType13 Tryz.stoodInHeld13 zero_13 Tryz.underlying13 cells_14 bytes_14 info_14
attribute [go_sem] agg_14 bok_14 Tryz.eqGuardType14 Tryz.stoodInHeld14 zero_14 Tryz.underlying14 cells_15 bytes_15 info_15 agg_15 zero_15 Tryz.underlying15
attribute [go_sem] cells_16 bytes_16 info_16 agg_16 zero_16 Tryz.underlying16 cells_17 bytes_17 info_17 agg_17 zero_17 Tryz.underlying17
attribute [go_sem] cells_18 bytes_18 info_18 agg_18 bok_18 Tryz.eqGuardType18 Tryz.stoodInHeld18 zero_18 Tryz.underlying18 cells_19 bytes_19 info_19
attribute [go_sem] agg_19 bok_19 Tryz.eqGuardType19 Tryz.stoodInHeld19 zero_19 Tryz.underlying19 cells_20 bytes_20 info_20 agg_20 zero_20 Tryz.underlying20
attribute [go_sem] cells_21 bytes_21 info_21 agg_21 zero_21 Tryz.underlying21 cells_22 bytes_22 info_22 agg_22 zero_22 Tryz.underlying22
attribute [go_sem] cells_23 bytes_23 info_23 agg_23 zero_23 Tryz.underlying23 cells_24 bytes_24 info_24 agg_24 zero_24 Tryz.underlying24
attribute [go_sem] cells_25 bytes_25 info_25 agg_25 zero_25 Tryz.underlying25 cells_26 bytes_26 info_26 agg_26 bok_26 Tryz.eqGuardType26
attribute [go_sem] Tryz.stoodInHeld26 zero_26 Tryz.underlying26 cells_27 bytes_27 info_27 agg_27 bok_27 Tryz.eqGuardType27 Tryz.stoodInHeld27 zero_27 Tryz.underlying27
attribute [go_sem] cells_28 bytes_28 info_28 agg_28 zero_28 Tryz.underlying28 cells_29 bytes_29 info_29 agg_29 zero_29 Tryz.underlying29
attribute [go_sem] cells_30 bytes_30 info_30 agg_30 zero_30 Tryz.underlying30 cells_31 bytes_31 info_31 agg_31 bok_31 Tryz.eqGuardType31
attribute [go_sem] Tryz.stoodInHeld31 zero_31 Tryz.underlying31 cells_32 bytes_32 info_32 agg_32 bok_32 Tryz.eqGuardType32 Tryz.stoodInHeld32 zero_32 Tryz.underlying32
attribute [go_sem] cells_33 bytes_33 info_33 agg_33 zero_33 Tryz.underlying33 cells_34 bytes_34 info_34 agg_34 zero_34 Tryz.underlying34
attribute [go_sem] cells_35 bytes_35 info_35 agg_35 zero_35 Tryz.underlying35 cells_36 bytes_36 info_36 agg_36 zero_36 Tryz.underlying36
attribute [go_sem] cells_37 bytes_37 info_37 agg_37 zero_37 Tryz.underlying37 cells_38 bytes_38 info_38 agg_38 zero_38 Tryz.underlying38
attribute [go_sem] cells_39 bytes_39 info_39 agg_39 zero_39 Tryz.underlying39 cells_40 bytes_40 info_40 agg_40 zero_40 Tryz.underlying40
attribute [go_sem] cells_41 bytes_41 info_41 agg_41 zero_41 Tryz.underlying41 cells_42 bytes_42 info_42 agg_42 zero_42 Tryz.underlying42
attribute [go_sem] cells_43 bytes_43 info_43 agg_43 zero_43 Tryz.underlying43 cells_44 bytes_44 info_44 agg_44 zero_44 Tryz.underlying44
attribute [go_sem] cells_45 bytes_45 info_45 agg_45 zero_45 Tryz.underlying45 cells_46 bytes_46 info_46 agg_46 zero_46 Tryz.underlying46
attribute [go_sem] cells_47 bytes_47 info_47 agg_47 zero_47 Tryz.underlying47 cells_48 bytes_48 info_48 agg_48 zero_48 Tryz.underlying48
attribute [go_sem] cells_49 bytes_49 info_49 agg_49 zero_49 Tryz.underlying49 cells_50 bytes_50 info_50 agg_50 zero_50 Tryz.underlying50
attribute [go_sem] cells_51 bytes_51 info_51 agg_51 zero_51 Tryz.underlying51 cells_52 bytes_52 info_52 agg_52 zero_52 Tryz.underlying52
attribute [go_sem] cells_53 bytes_53 info_53 agg_53 zero_53 Tryz.underlying53 cells_54 bytes_54 info_54 agg_54 zero_54 Tryz.underlying54
attribute [go_sem] cells_55 bytes_55 info_55 agg_55 zero_55 Tryz.underlying55 cells_56 bytes_56 info_56 agg_56 zero_56 Tryz.underlying56
attribute [go_sem] cells_57 bytes_57 info_57 agg_57 zero_57 Tryz.underlying57 cells_58 bytes_58 info_58 agg_58 zero_58 Tryz.underlying58
attribute [go_sem] cells_59 bytes_59 info_59 agg_59 zero_59 Tryz.underlying59 cells_60 bytes_60 info_60 agg_60 zero_60 Tryz.underlying60
attribute [go_sem] cells_61 bytes_61 info_61 agg_61 zero_61 Tryz.underlying61 cells_62 bytes_62 info_62 agg_62 zero_62 Tryz.underlying62
attribute [go_sem] cells_63 bytes_63 info_63 agg_63 zero_63 Tryz.underlying63 cells_64 bytes_64 info_64 agg_64 zero_64 Tryz.underlying64
attribute [go_sem] cells_65 bytes_65 info_65 agg_65 zero_65 Tryz.underlying65 cells_66 bytes_66 info_66 agg_66 zero_66 Tryz.underlying66
attribute [go_sem] cells_67 bytes_67 info_67 agg_67 zero_67 Tryz.underlying67 cells_68 bytes_68 info_68 agg_68 zero_68 Tryz.underlying68
attribute [go_sem] cells_69 bytes_69 info_69 agg_69 zero_69 Tryz.underlying69 cells_70 bytes_70 info_70 agg_70 zero_70 Tryz.underlying70
attribute [go_sem] cells_71 bytes_71 info_71 agg_71 zero_71 Tryz.underlying71 cells_72 bytes_72 info_72 agg_72 zero_72 Tryz.underlying72
attribute [go_sem] cells_73 bytes_73 info_73 agg_73 bok_73 Tryz.eqGuardType73 Tryz.stoodInHeld73 zero_73 Tryz.underlying73 cells_74 bytes_74 info_74
attribute [go_sem] agg_74 bok_74 Tryz.eqGuardType74 Tryz.stoodInHeld74 zero_74 Tryz.underlying74 cells_75 bytes_75 info_75 agg_75 zero_75 Tryz.underlying75
attribute [go_sem] cells_76 bytes_76 info_76 agg_76 zero_76 Tryz.underlying76 cells_77 bytes_77 info_77 agg_77 zero_77 Tryz.underlying77
attribute [go_sem] cells_78 bytes_78 info_78 agg_78 zero_78 Tryz.underlying78 cells_79 bytes_79 info_79 agg_79 zero_79 Tryz.underlying79
attribute [go_sem] cells_80 bytes_80 info_80 agg_80 zero_80 Tryz.underlying80 cells_81 bytes_81 info_81 agg_81 zero_81 Tryz.underlying81
attribute [go_sem] cells_82 bytes_82 info_82 agg_82 zero_82 Tryz.underlying82 cells_83 bytes_83 info_83 agg_83 zero_83 Tryz.underlying83
attribute [go_sem] cells_84 bytes_84 info_84 agg_84 zero_84 Tryz.underlying84 cells_85 bytes_85 info_85 agg_85 zero_85 Tryz.underlying85
attribute [go_sem] cells_86 bytes_86 info_86 agg_86 zero_86 Tryz.underlying86 cells_87 bytes_87 info_87 agg_87 zero_87 Tryz.underlying87
attribute [go_sem] cells_88 bytes_88 info_88 agg_88 zero_88 Tryz.underlying88 cells_89 bytes_89 info_89 agg_89 zero_89 Tryz.underlying89
attribute [go_sem] cells_90 bytes_90 info_90 agg_90 zero_90 Tryz.underlying90 cells_91 bytes_91 info_91 agg_91 zero_91 Tryz.underlying91
attribute [go_sem] cells_92 bytes_92 info_92 agg_92 zero_92 Tryz.underlying92 cells_93 bytes_93 info_93 agg_93 zero_93 Tryz.underlying93
attribute [go_sem] cells_94 bytes_94 info_94 agg_94 zero_94 Tryz.underlying94 cells_95 bytes_95 info_95 agg_95 zero_95 Tryz.underlying95
attribute [go_sem] cells_96 bytes_96 info_96 agg_96 zero_96 Tryz.underlying96 cells_97 bytes_97 info_97 agg_97 zero_97 Tryz.underlying97
attribute [go_sem] cells_98 bytes_98 info_98 agg_98 zero_98 Tryz.underlying98 cells_99 bytes_99 info_99 agg_99 zero_99 Tryz.underlying99
attribute [go_sem] cells_100 bytes_100 info_100 agg_100 zero_100 Tryz.underlying100 cells_101 bytes_101 info_101 agg_101 zero_101 Tryz.underlying101
attribute [go_sem] cells_102 bytes_102 info_102 agg_102 zero_102 Tryz.underlying102 cells_103 bytes_103 info_103 agg_103 zero_103 Tryz.underlying103
attribute [go_sem] cells_104 bytes_104 info_104 agg_104 bok_104 Tryz.eqGuardType104 zero_104 Tryz.underlying104 cells_105 bytes_105 info_105 agg_105
attribute [go_sem] zero_105 Tryz.underlying105 cells_106 bytes_106 info_106 agg_106 zero_106 Tryz.underlying106 cells_107 bytes_107 info_107 agg_107
attribute [go_sem] zero_107 Tryz.underlying107 cells_108 bytes_108 info_108 agg_108 zero_108 Tryz.underlying108 cells_109 bytes_109 info_109 agg_109
attribute [go_sem] zero_109 Tryz.underlying109 cells_110 bytes_110 info_110 agg_110 zero_110 Tryz.underlying110 cells_111 bytes_111 info_111 agg_111
attribute [go_sem] bok_111 Tryz.eqGuardType111 Tryz.underlying111 cells_112 bytes_112 info_112 agg_112 zero_112 Tryz.underlying112 cells_113 bytes_113 info_113
attribute [go_sem] agg_113 zero_113 Tryz.underlying113 cells_114 bytes_114 info_114 agg_114 zero_114 Tryz.underlying114 cells_115 bytes_115 info_115
attribute [go_sem] agg_115 zero_115 Tryz.underlying115 cells_116 bytes_116 info_116 agg_116 zero_116 Tryz.underlying116 cells_117 bytes_117 info_117
attribute [go_sem] agg_117 zero_117 Tryz.underlying117 cells_118 bytes_118 info_118 agg_118 zero_118 Tryz.underlying118 cells_119 bytes_119 info_119
attribute [go_sem] agg_119 bok_119 Tryz.eqGuardType119 Tryz.underlying119 cells_120 bytes_120 info_120 agg_120 bok_120 Tryz.eqGuardType120 Tryz.underlying120 cells_121
attribute [go_sem] bytes_121 info_121 agg_121 Tryz.underlying121 cells_122 bytes_122 info_122 agg_122 zero_122 Tryz.underlying122 cells_123 bytes_123
attribute [go_sem] info_123 agg_123 zero_123 Tryz.underlying123 cells_124 bytes_124 info_124 agg_124 zero_124 Tryz.underlying124 cells_125 bytes_125
attribute [go_sem] info_125 agg_125 zero_125 Tryz.underlying125 cells_126 bytes_126 info_126 agg_126 zero_126 Tryz.underlying126 cells_127 bytes_127
attribute [go_sem] info_127 agg_127 zero_127 Tryz.underlying127 cells_128 bytes_128 info_128 agg_128 zero_128 Tryz.underlying128 cells_129 bytes_129
attribute [go_sem] info_129 agg_129 zero_129 Tryz.underlying129 cells_130 bytes_130 info_130 agg_130 bok_130 Tryz.eqGuardType130 zero_130 Tryz.underlying130
attribute [go_sem] cells_131 bytes_131 info_131 agg_131 bok_131 Tryz.eqGuardType131 zero_131 Tryz.underlying131 cells_132 bytes_132 info_132 agg_132
attribute [go_sem] zero_132 Tryz.underlying132 cells_133 bytes_133 info_133 agg_133 zero_133 Tryz.underlying133 cells_134 bytes_134 info_134 agg_134
attribute [go_sem] zero_134 Tryz.underlying134 cells_135 bytes_135 info_135 agg_135 zero_135 Tryz.underlying135 cells_136 bytes_136 info_136 agg_136
attribute [go_sem] zero_136 Tryz.underlying136 cells_137 bytes_137 info_137 agg_137 bok_137 Tryz.eqGuardType137 Tryz.stoodInHeld137 zero_137 Tryz.underlying137 cells_138
attribute [go_sem] bytes_138 info_138 agg_138 bok_138 Tryz.eqGuardType138 Tryz.stoodInHeld138 zero_138 Tryz.underlying138 cells_139 bytes_139 info_139 agg_139
attribute [go_sem] zero_139 Tryz.underlying139 cells_140 bytes_140 info_140 agg_140 zero_140 Tryz.underlying140 cells_141 bytes_141 info_141 agg_141
attribute [go_sem] zero_141 Tryz.underlying141 cells_142 bytes_142 info_142 agg_142 zero_142 Tryz.underlying142 cells_143 bytes_143 info_143 agg_143
attribute [go_sem] zero_143 Tryz.underlying143 cells_144 bytes_144 info_144 agg_144 zero_144 Tryz.underlying144 cells_145 bytes_145 info_145 agg_145
attribute [go_sem] zero_145 Tryz.underlying145 cells_146 bytes_146 info_146 agg_146 zero_146 Tryz.underlying146 cells_147 bytes_147 info_147 agg_147
attribute [go_sem] bok_147 Tryz.eqGuardType147 Tryz.stoodInHeld147 zero_147 Tryz.underlying147 cells_148 bytes_148 info_148 agg_148 bok_148 Tryz.eqGuardType148 Tryz.stoodInHeld148
attribute [go_sem] zero_148 Tryz.underlying148 cells_149 bytes_149 info_149 agg_149 bok_149 Tryz.eqGuardType149 Tryz.stoodInHeld149 zero_149 Tryz.underlying149 cells_150
attribute [go_sem] bytes_150 info_150 agg_150 bok_150 Tryz.eqGuardType150 Tryz.stoodInHeld150 zero_150 Tryz.underlying150 cells_151 bytes_151 info_151 agg_151
attribute [go_sem] zero_151 Tryz.underlying151 cells_152 bytes_152 info_152 agg_152 bok_152 Tryz.eqGuardType152 Tryz.stoodInHeld152 zero_152 Tryz.underlying152 cells_153
attribute [go_sem] bytes_153 info_153 agg_153 bok_153 Tryz.eqGuardType153 Tryz.stoodInHeld153 zero_153 Tryz.underlying153 cells_154 bytes_154 info_154 agg_154
attribute [go_sem] zero_154 Tryz.underlying154 cells_155 bytes_155 info_155 agg_155 zero_155 Tryz.underlying155 cells_156 bytes_156 info_156 agg_156
attribute [go_sem] zero_156 Tryz.underlying156 cells_157 bytes_157 info_157 agg_157 zero_157 Tryz.underlying157 cells_158 bytes_158 info_158 agg_158
attribute [go_sem] zero_158 Tryz.underlying158 cells_159 bytes_159 info_159 agg_159 zero_159 Tryz.underlying159 cells_160 bytes_160 info_160 agg_160
attribute [go_sem] zero_160 Tryz.underlying160 cells_161 bytes_161 info_161 agg_161 bok_161 Tryz.eqGuardType161 zero_161 Tryz.underlying161 cells_162 bytes_162
attribute [go_sem] info_162 agg_162 bok_162 Tryz.eqGuardType162 zero_162 Tryz.underlying162 cells_163 bytes_163 info_163 agg_163 bok_163 Tryz.eqGuardType163
attribute [go_sem] Tryz.stoodInHeld163 zero_163 Tryz.underlying163 cells_164 bytes_164 info_164 agg_164 bok_164 Tryz.eqGuardType164 Tryz.stoodInHeld164 zero_164 Tryz.underlying164
attribute [go_sem] cells_165 bytes_165 info_165 agg_165 bok_165 Tryz.eqGuardType165 zero_165 Tryz.underlying165 cells_166 bytes_166 info_166 agg_166
attribute [go_sem] zero_166 Tryz.underlying166 cells_167 bytes_167 info_167 agg_167 zero_167 Tryz.underlying167 cells_168 bytes_168 info_168 agg_168
attribute [go_sem] bok_168 Tryz.eqGuardType168 Tryz.stoodInHeld168 zero_168 Tryz.underlying168 cells_169 bytes_169 info_169 agg_169 bok_169 Tryz.eqGuardType169 Tryz.stoodInHeld169
attribute [go_sem] zero_169 Tryz.underlying169 cells_170 bytes_170 info_170 agg_170 zero_170 Tryz.underlying170 cells_171 bytes_171 info_171 agg_171
attribute [go_sem] zero_171 Tryz.underlying171 cells_172 bytes_172 info_172 agg_172 bok_172 Tryz.eqGuardType172 Tryz.stoodInHeld172 zero_172 Tryz.underlying172 cells_173
attribute [go_sem] bytes_173 info_173 agg_173 bok_173 Tryz.eqGuardType173 Tryz.stoodInHeld173 zero_173 Tryz.underlying173 cells_174 bytes_174 info_174 agg_174
attribute [go_sem] bok_174 Tryz.eqGuardType174 Tryz.stoodInHeld174 zero_174 Tryz.underlying174 cells_175 bytes_175 info_175 agg_175 bok_175 Tryz.eqGuardType175 Tryz.stoodInHeld175
attribute [go_sem] zero_175 Tryz.underlying175 cells_176 bytes_176 info_176 agg_176 bok_176 Tryz.eqGuardType176 zero_176 Tryz.underlying176 cells_177 bytes_177
attribute [go_sem] info_177 agg_177 bok_177 Tryz.eqGuardType177 Tryz.stoodInHeld177 zero_177 Tryz.underlying177 cells_178 bytes_178 info_178 agg_178 bok_178
attribute [go_sem] Tryz.eqGuardType178 Tryz.stoodInHeld178 zero_178 Tryz.underlying178 cells_179 bytes_179 info_179 agg_179 zero_179 Tryz.underlying179 cells_180 bytes_180
attribute [go_sem] info_180 agg_180 zero_180 Tryz.underlying180 cells_181 bytes_181 info_181 agg_181 zero_181 Tryz.underlying181 cells_182 bytes_182
attribute [go_sem] info_182 agg_182 zero_182 Tryz.underlying182 cells_183 bytes_183 info_183 agg_183 zero_183 Tryz.underlying183 cells_184 bytes_184
attribute [go_sem] info_184 agg_184 bok_184 Tryz.eqGuardType184 Tryz.stoodInHeld184 zero_184 Tryz.underlying184 cells_185 bytes_185 info_185 agg_185 bok_185
attribute [go_sem] Tryz.eqGuardType185 Tryz.stoodInHeld185 zero_185 Tryz.underlying185 Tryz.results0 Tryz.results1 Tryz.results2 Tryz.results3 Tryz.results4 Tryz.results5 Tryz.results6 Tryz.results7
attribute [go_sem] Tryz.results8 Tryz.results9 Tryz.results10 Tryz.results11 Tryz.results12 Tryz.results13 Tryz.results14 Tryz.results15 Tryz.results16 Tryz.results17 Tryz.results18 Tryz.results19
attribute [go_sem] Tryz.results20 Tryz.results21 Tryz.results22 Tryz.results23 Tryz.results24 Tryz.results25 Tryz.results26 Tryz.results27 Tryz.results28 Tryz.results29 Tryz.results30 Tryz.results31
attribute [go_sem] Tryz.results32 Tryz.results33 Tryz.results34 Tryz.results35 Tryz.results36 Tryz.results37 Tryz.results38 Tryz.results39 Tryz.results40 Tryz.results41 Tryz.results42 Tryz.results43
attribute [go_sem] Tryz.results44 Tryz.results45 Tryz.results46 Tryz.results47 Tryz.results48 Tryz.results49 Tryz.results50 Tryz.results51 Tryz.results52 Tryz.results53 Tryz.results54 Tryz.results55
attribute [go_sem] Tryz.results56 Tryz.results57 Tryz.results58 Tryz.results59 Tryz.results60 Tryz.results61 Tryz.results62 Tryz.results63 Tryz.results64 Tryz.results65 Tryz.results66 Tryz.results67
attribute [go_sem] Tryz.results68 Tryz.results69 Tryz.results70 Tryz.results71 Tryz.results72 Tryz.results73 Tryz.results74 Tryz.results75 Tryz.results76 Tryz.results77 Tryz.results78 Tryz.results79
attribute [go_sem] Tryz.results80 Tryz.results81 Tryz.results82 Tryz.results83 Tryz.results84 Tryz.results85 Tryz.results86 Tryz.results87 Tryz.results88 Tryz.results89 Tryz.results90 Tryz.results91
attribute [go_sem] Tryz.results92 Tryz.results93 Tryz.results94 Tryz.results95 Tryz.results96 Tryz.results97 Tryz.results98 Tryz.results99 Tryz.results100 Tryz.results101 Tryz.results102 Tryz.results103
attribute [go_sem] Tryz.results104 Tryz.results105 Tryz.results106 Tryz.results107 Tryz.results108 Tryz.results109 Tryz.results110 Tryz.results111 Tryz.results112 Tryz.results113 Tryz.results114 Tryz.results115
attribute [go_sem] Tryz.results116 Tryz.results117 Tryz.results118 Tryz.results119 Tryz.results120 Tryz.results121 Tryz.results122 Tryz.results123 Tryz.results124 Tryz.results125 Tryz.results126 Tryz.results127
attribute [go_sem] Tryz.results128 Tryz.results129 Tryz.results130 Tryz.results131 Tryz.results132 Tryz.results133 Tryz.results134 Tryz.results135 Tryz.results136 Tryz.results137 Tryz.results138 Tryz.results139
attribute [go_sem] Tryz.results140 Tryz.results141 Tryz.results142 Tryz.results143 Tryz.results144 Tryz.results145 Tryz.results146 Tryz.results147 Tryz.results148 Tryz.results149 Tryz.results150 Tryz.results151
attribute [go_sem] Tryz.results152 Tryz.results153 Tryz.results154 Tryz.results155 Tryz.results156 Tryz.results157 Tryz.results158 Tryz.results159 Tryz.results160 Tryz.results161 Tryz.results162 Tryz.results163
attribute [go_sem] Tryz.results164 Tryz.results165 Tryz.results166 Tryz.results167 Tryz.results168 Tryz.results169 Tryz.results170 Tryz.results171 Tryz.results172 Tryz.results173 Tryz.results174 Tryz.results175
attribute [go_sem] Tryz.results176 Tryz.results177 Tryz.results178 Tryz.results179 Tryz.results180 Tryz.results181 Tryz.results182 Tryz.results183
end Go.Dl

-- THE LIBRARY's FUNCTIONS AT THE DATA LEVEL: what is common to all of them.
namespace Go.Dl
open Go Go.Proofs
set_option maxRecDepth 10000

section
variable {P : Program} {G : Nat → DVal}

/-- What a call of the library's leaves: the old blocks as they were. -/
structure Quiet (w w' : World) : Prop where
  os : w'.os = w.os
  tape : w'.tape = w.tape
  output : w'.output = w.output
  size : w.heap.size ≤ w'.heap.size
  block : ∀ b, b < w.heap.size → w'.heap[b]? = w.heap[b]?

theorem Quiet.refl (w : World) : Quiet w w := ⟨rfl, rfl, rfl, Nat.le_refl _, fun _ _ => rfl⟩
theorem Quiet.below {w w' : World} (h : RowKit.Below w.heap.size w w') : Quiet w w' := ⟨h.os, h.tape, h.output, h.size, h.block⟩
theorem Quiet.bytes (w : World) (e : TypeId) (s : ByteArray) : Quiet w (Lib.bytesWorld w e s) :=
  ⟨by rfl, by rfl, by rfl, by rw [Lib.bytesWorld_size]; omega, fun b hb => Lib.bytesWorld_at_old w e s b hb⟩
theorem Quiet.drewN (w : World) (n : Nat) : Quiet w (w.drewN n) := ⟨rfl, rfl, rfl, Nat.le_refl _, fun _ _ => rfl⟩

theorem Quiet.ext {w w' : World} {H : DHeap} (hH : SimHeap w H) (h : Quiet w w') : SimHeap w' H ∧ Ext H w H w' := by
  have hE : Ext H w H w' := ⟨h.os, h.tape, h.output, h.size, fun b hb _ => h.block b hb, fun b hb => .inl hb, fun b hb => by rw [h.block b hb], fun a ha _ => by unfold World.frozen?; rw [h.block _ ha]⟩
  refine ⟨fun r o ho => ?_, hE⟩
  rw [h.block r (hH.lt (by simp [ho]))]
  exact (hH r o ho).lasts hE.lasts

/-- A function of the library that leaves the memory as it was. -/
theorem DCalls.quiet {f : FuncId} {args : List DVal} {H : DHeap} {R : DEnd → Prop} (hc : ∀ vs w, (callFunc f vs).run P w = .ok (.enter f vs) w)
    (h : ∀ vs w, RelL w H args vs → SimHeap w H → GOk G w H → Calls P f vs.toArray w fun e w' => Quiet w w' ∧ ∃ e', R e' ∧ RelE w' H e' e) :
    DCalls P G f args H fun e H' => R e ∧ H' = H := by
  refine ⟨hc, fun vs w hv hH hG => (h vs w hv hH hG).mono fun e w' ⟨hq, e', hR, hrel⟩ => ?_⟩
  obtain ⟨k1, k2⟩ := hq.ext hH
  exact ⟨e', H, ⟨hR, rfl⟩, hrel, k1, k2⟩

/-- A table of integers, as a variable. -/
theorem tab_cells {w : World} {H : DHeap} {g : Nat} {cs : List DVal} {name : String} {k : IntKind} {zs : List Int} (hg : P.globalNamed name = some g) (h : Rel w H (.vptr cs 0) (.pointer (some ⟨g, 0, none⟩)))
    (hcs : cs = zs.map fun z => .int k z) : ∀ i z, zs[i]? = some z → w.cell? ⟨g, i, none⟩ = some (.int k z) := by
  simp only [Rel] at h
  obtain ⟨b, o, xs, e, hc, hr⟩ := h
  simp only [Value.pointer.injEq, Option.some.injEq, Addr.mk.injEq, Nat.add_zero, and_true] at e
  obtain ⟨rfl, rfl⟩ := e
  intro i z hz
  have h1 : cs[i]? = some (.int k z) := by rw [hcs]; simp [hz]
  obtain ⟨y, hy, hrel⟩ := hr.get h1
  simp only [Rel] at hrel; subst hrel
  have := hc.holds i _ hy
  simpa using this
end

/-- What the package's variables hold. -/
structure GT (G : Nat → DVal) : Prop where
  maxLen : ∃ m, G 0 = .vptr [.int .i64 m] 0
  syn : ∃ t d, G 8 = .vptr [.iface t d] 0
  rng : ∃ t d, G 9 = .vptr [.iface t d] 0

section
variable {G : Nat → DVal} {H : DHeap}

theorem var_cell {w : World} {g : Nat} {d : DVal} (h : GOk G w H) (e : G g = .vptr [d] 0) : ∃ x, w.cell? ⟨g, 0, none⟩ = some x ∧ Rel w H d x := by
  have := h.rel g
  rw [e] at this
  simp only [Rel, RelL] at this
  obtain ⟨b, o, xs, e, hc, y, ys, rfl, h1, rfl⟩ := this
  simp only [Value.pointer.injEq, Option.some.injEq, Addr.mk.injEq, Nat.add_zero, and_true] at e
  obtain ⟨rfl, rfl⟩ := e
  have := hc.holds 0 y rfl
  exact ⟨y, by simpa using this, h1⟩
end
end Go.Dl

-- General plain laws: cells of lists of structs, positions, texts of integers, pieces.
namespace Go.Dl
open Go Go.Proofs
set_option maxRecDepth 10000

def I64 (n : Int) : Prop := -9223372036854775808 ≤ n ∧ n ≤ 9223372036854775807
section
variable {α : Type} {c : α → List DVal} {k : Nat}
theorem flat_len (hk : ∀ x, (c x).length = k) (l : List α) : (l.flatMap c).length = l.length * k := by
  induction l with
  | nil => simp
  | cons x l ih => simp [List.flatMap_cons, ih, hk, Nat.add_mul]; omega
theorem flat_drop (hk : ∀ x, (c x).length = k) : ∀ (l : List α) (i : Nat), (l.flatMap c).drop (i * k) = (l.drop i).flatMap c
  | l, 0 => by simp
  | [], i + 1 => by simp
  | x :: l, i + 1 => by
    rw [List.flatMap_cons, show (i + 1) * k = (c x).length + i * k by rw [hk, Nat.add_mul]; omega, List.drop_append, List.drop_succ_cons, ← flat_drop hk l i]
    simp
theorem flat_el (hk : ∀ x, (c x).length = k) (l : List α) (i : Nat) (h : i < l.length) : ((l.flatMap c).drop (i * k)).take k = c l[i] := by
  rw [flat_drop hk, List.drop_eq_getElem_cons h, List.flatMap_cons, List.take_append_of_le_length (by rw [hk]; omega), List.take_of_length_le (by rw [hk]; omega)]
theorem flat_get (hk : ∀ x, (c x).length = k) (l : List α) (i : Nat) (h : i < l.length) (j : Nat) (hj : j < k) : (l.flatMap c)[i * k + j]? = (c l[i])[j]? := by
  rw [← flat_el hk l i h, List.getElem?_take, if_pos hj, List.getElem?_drop]
end

/-- Where p holds first; -1: nowhere. -/
def idxF {α : Type} (p : α → Bool) (l : List α) : Int := match l.findIdx? p with | some i => (i : Int) | none => -1

theorem idxF_at {α : Type} {p : α → Bool} {l : List α} {i : Nat} (h : i < l.length) (hp : p l[i] = true) (hn : ∀ x ∈ l.take i, p x = false) : idxF p l = i := by
  have : l.findIdx? p = some i := by
    rw [List.findIdx?_eq_some_iff_getElem]
    exact ⟨h, hp, fun j hj => by have := hn l[j] (List.mem_take_iff_getElem.2 ⟨j, by omega, rfl⟩); simp [this]⟩
  rw [idxF, this]
theorem idxF_no {α : Type} {p : α → Bool} {l : List α} (hn : ∀ x ∈ l, p x = false) : idxF p l = -1 := by
  have : l.findIdx? p = none := by rw [List.findIdx?_eq_none_iff]; intro x hx; rw [hn x hx]
  rw [idxF, this]
theorem idxF_any {α : Type} (p : α → Bool) (l : List α) : decide (0 ≤ idxF p l) = l.any p := by
  unfold idxF
  cases h : l.findIdx? p with
  | some i =>
    obtain ⟨h1, h2, _⟩ := List.findIdx?_eq_some_iff_getElem.1 h
    have : l.any p = true := List.any_eq_true.2 ⟨_, List.getElem_mem h1, h2⟩
    rw [this]; simp
  | none =>
    rw [List.findIdx?_eq_none_iff] at h
    have : l.any p = false := by rw [List.any_eq_false]; intro x hx; rw [h x hx]; simp
    rw [this]; rfl
theorem take_next {α : Type} {p : α → Prop} {l : List α} {i : Nat} (h : i < l.length) (hn : ∀ x ∈ l.take i, p x) (hx : p l[i]) : ∀ x ∈ l.take (i + 1), p x := by
  intro x hm
  rw [List.take_succ_eq_append_getElem h, List.mem_append, List.mem_singleton] at hm
  rcases hm with hm | rfl
  · exact hn x hm
  · exact hx
theorem itoa_len {n : Int} (h : I64 n) : (Lib.itoa n).length ≤ 21 := by
  have h1 := h.1
  have h2 := h.2
  unfold Lib.itoa
  split
  · rw [List.length_cons, Lib.decDigits_length]
    have := Lib.nDigits_le20 n.natAbs (by omega)
    omega
  · rw [Lib.decDigits_length]
    have := Lib.nDigits_le20 n.toNat (by omega)
    omega
theorem decDigits_digits (u : Nat) : ∀ b ∈ Lib.decDigits u, 48 ≤ b.toNat ∧ b.toNat ≤ 57 := by
  induction u using Nat.strongRecOn with
  | ind u ih =>
    have one : ∀ d : Nat, d < 10 → 48 ≤ (UInt8.ofNat (48 + d)).toNat ∧ (UInt8.ofNat (48 + d)).toNat ≤ 57 := fun d hd => by
      rw [UInt8.toNat_ofNat']; omega
    intro b hb
    rw [Lib.decDigits] at hb
    split at hb
    · rename_i h
      rw [List.mem_singleton] at hb; subst hb; exact one u h
    · rename_i h
      rcases List.mem_append.1 hb with hb | hb
      · exact ih (u / 10) (by omega) b hb
      · rw [List.mem_singleton] at hb; subst hb; exact one _ (by omega)
theorem decDigits_ne (u : Nat) : Lib.decDigits u ≠ [] := by
  rw [Lib.decDigits]; split <;> simp

theorem parseUintM_append (M : Nat) : ∀ (l r : List UInt8) (acc v : Nat), Lib.parseUintM M acc l = .ok v → Lib.parseUintM M acc (l ++ r) = Lib.parseUintM M v r
  | [], r, acc, v, h => by simp only [Lib.parseUintM] at h; cases h; rfl
  | c :: l, r, acc, v, h => by
    simp only [Lib.parseUintM, List.cons_append] at h ⊢
    split at h
    · rename_i h1
      rw [if_pos h1]
      split at h
      · cases h
      · rename_i h2
        rw [if_neg h2]
        split at h
        · cases h
        · rename_i h3
          rw [if_neg h3]
          exact parseUintM_append M l r _ v h
    · cases h
theorem parse_digits (u : Nat) (hu : u < 18446744073709551616) : Lib.parseUintM 18446744073709551615 0 (Lib.decDigits u) = .ok u := by
  induction u using Nat.strongRecOn with
  | ind u ih =>
    have d : ∀ d : Nat, d < 10 → (UInt8.ofNat (48 + d)).toNat = 48 + d := fun d hd => by rw [UInt8.toNat_ofNat']; omega
    rw [Lib.decDigits]
    split
    · rename_i h
      simp only [Lib.parseUintM, d u h]
      rw [if_pos (by omega), if_neg (by omega), if_neg (by omega)]
      congr 1; omega
    · rename_i h
      rw [parseUintM_append _ _ _ _ _ (ih (u / 10) (by omega) (by omega))]
      simp only [Lib.parseUintM, d (u % 10) (by omega)]
      rw [if_pos (by omega), if_neg (by omega), if_neg (by omega)]
      congr 1; omega
theorem parse_itoa {n : Int} (h : I64 n) : Lib.parseIntB 64 (Lib.itoa n) = .ok n := by
  obtain ⟨h1, h2⟩ := h
  have hM : (2 ^ 64 - 1 : Nat) = 18446744073709551615 := by decide
  have hM2 : (2 ^ (64 - 1) : Nat) = 9223372036854775808 := by decide
  by_cases c : n < 0
  · obtain ⟨u, rfl⟩ : ∃ u : Nat, n = -(u : Int) := ⟨n.natAbs, by omega⟩
    rw [Lib.itoa_neg u (by omega), Lib.parseIntB_minus, Lib.parseUintB, if_neg (decDigits_ne u), hM, hM2, parse_digits u (by omega)]
    simp only [Lib.signedC]
    rw [if_neg (by omega)]
  · obtain ⟨u, rfl⟩ : ∃ u : Nat, n = (u : Int) := ⟨n.toNat, by omega⟩
    rw [Lib.itoa_nonneg]
    have hp := parse_digits u (by omega)
    cases hd : Lib.decDigits u with
    | nil => exact absurd hd (decDigits_ne u)
    | cons c r =>
      have hc := decDigits_digits u c (by rw [hd]; simp)
      rw [Lib.parseIntB_plain _ _ _ (by omega) (by omega), Lib.parseUintB, if_neg (by simp), hM, hM2, ← hd, hp]
      simp only [Lib.signlessC]
      rw [if_neg (by omega)]

/-- The number that strconv.ParseInt reads. -/
def pI (s : List UInt8) : Option Int := match Lib.parseIntB 64 s with | .ok n => some n | _ => none
theorem pI_itoa {n : Int} (h : I64 n) : pI (Lib.itoa n) = some n := by rw [pI, parse_itoa h]
theorem pI_i64 {s : List UInt8} {n : Int} (h : pI s = some n) : I64 n := by
  unfold pI at h
  split at h
  · rename_i e
    cases h
    have := Lib.parseIntB_bounds e
    simp at this
    exact ⟨by omega, by omega⟩
  · cases h
def wordOf (s : List UInt8) : List UInt8 := (Lib.cut s [32]).1
def restOf (s : List UInt8) : List UInt8 := (Lib.cut s [32]).2.1

theorem index_at (w r : List UInt8) (c : UInt8) (h : c ∉ w) : Lib.index (w ++ c :: r) [c] = w.length := by
  induction w with
  | nil => simp [Lib.index]
  | cons b w ih =>
    simp only [List.mem_cons, not_or] at h
    have hp : ([c].isPrefixOf (b :: (w ++ c :: r))) = false := by simp [List.isPrefixOf, h.1]
    simp only [List.cons_append, Lib.index, hp, ih h.2]
    simp
theorem index_no (w : List UInt8) (c : UInt8) (h : c ∉ w) : Lib.index w [c] = -1 := by
  induction w with
  | nil => rfl
  | cons b w ih =>
    simp only [List.mem_cons, not_or] at h
    have hp : ([c].isPrefixOf (b :: w)) = false := by simp [List.isPrefixOf, h.1]
    simp [Lib.index, hp, ih h.2]
theorem cut_at (w r : List UInt8) (c : UInt8) (h : c ∉ w) : Lib.cut (w ++ c :: r) [c] = (w, r, true) := by
  rw [Lib.cut, index_at w r c h, if_pos (by omega)]
  simp
theorem cut_no (w : List UInt8) (c : UInt8) (h : c ∉ w) : Lib.cut w [c] = (w, [], false) := by
  rw [Lib.cut, index_no w c h, if_neg (by omega)]

theorem itoa_chars (n : Int) : ∀ b ∈ Lib.itoa n, 45 ≤ b.toNat ∧ b.toNat ≤ 57 := by
  intro b hb
  unfold Lib.itoa at hb
  split at hb
  · rcases List.mem_cons.1 hb with rfl | hb
    · decide
    · have := decDigits_digits _ b hb; omega
  · have := decDigits_digits _ b hb; omega
theorem itoa_no (n : Int) (c : UInt8) (h : c.toNat < 45) : c ∉ Lib.itoa n := fun hc => by have := itoa_chars n c hc; omega
theorem trim_lf (s : List UInt8) : Lib.trimSuffix (s ++ [10]) [10] = s := by
  have h : Lib.hasSuffix (s ++ [10]) [10] = true := by
    unfold Lib.hasSuffix
    rw [List.isSuffixOf_iff_suffix]
    exact ⟨s, rfl⟩
  rw [Lib.trimSuffix, if_pos h]; simp
def splitL : List UInt8 → List UInt8 → List (List UInt8)
  | [], cur => [cur]
  | c :: r, cur => if c = 32 then cur :: splitL r [] else splitL r (cur ++ [c])
def fieldsL (s : List UInt8) : List (List UInt8) := splitL s []
theorem splitL_no (w : List UInt8) (h : (32 : UInt8) ∉ w) : ∀ cur, splitL w cur = [cur ++ w] := by
  induction w with
  | nil => intro cur; simp [splitL]
  | cons c w ih =>
    intro cur
    simp only [List.mem_cons, not_or] at h
    rw [splitL, if_neg (fun e => h.1 e.symm), ih h.2]; simp
theorem splitL_at (w r : List UInt8) (h : (32 : UInt8) ∉ w) : ∀ cur, splitL (w ++ 32 :: r) cur = (cur ++ w) :: splitL r [] := by
  induction w with
  | nil => intro cur; simp [splitL]
  | cons c w ih =>
    intro cur
    simp only [List.mem_cons, not_or] at h
    rw [List.cons_append, splitL, if_neg (fun e => h.1 e.symm), ih h.2]; simp
theorem splitL_len : ∀ (s cur : List UInt8), (splitL s cur).length ≤ s.length + 1
  | [], cur => by simp [splitL]
  | c :: r, cur => by
    rw [splitL]; split
    · have := splitL_len r []; simp; omega
    · have := splitL_len r (cur ++ [c]); simp; omega
theorem splitL_el : ∀ (s cur : List UInt8), ∀ w ∈ splitL s cur, w.length ≤ s.length + cur.length
  | [], cur => by simp [splitL]
  | c :: r, cur => by
    rw [splitL]; split
    · intro w hw
      rcases List.mem_cons.1 hw with rfl | hw
      · simp
      · have := splitL_el r [] w hw; simp at this ⊢; omega
    · intro w hw
      have := splitL_el r (cur ++ [c]) w hw; simp at this ⊢; omega

theorem toNat_ne {c d : UInt8} (h : c ≠ d) : ¬ (c.toNat : Int) = (d.toNat : Int) := fun e => h (UInt8.toNat_inj.1 (by omega))
/-- A slice of strings. -/
def dStrs (l : List (List UInt8)) : DVal := .vslice (l.map .str) l.length
end Go.Dl

-- THE DATA LEVEL, PART J: slices that are built up beside other memory of the call's own that nobody asks for any more.
namespace Go.Dl
open Go Go.RowKit

theorem lasts_h0 (H : DHeap) (w : World) : Lasts H w h0 w := lasts_sub (fun r o h => by cases h) w
/-- Whatever block H has, H' has. -/
def Sub (H H' : DHeap) : Prop := ∀ r o, H r = some o → H' r = some o
theorem Sub.refl (H : DHeap) : Sub H H := fun _ _ h => h
theorem Sub.trans {H H' H'' : DHeap} (h : Sub H H') (k : Sub H' H'') : Sub H H'' := fun r o x => k r o (h r o x)
theorem Sub.lo {H H' : DHeap} (h : Sub H H') {r : Nat} (hr : H' r = none) : H r = none := by
  cases e : H r with
  | none => rfl
  | some o => rw [h r o e] at hr; cases hr
theorem Sub.up {H H' : DHeap} (h : Sub H H') {r : Nat} (hr : H r = none) (x : Option DObj) : Sub H (upd H' r x) := fun b o hb => by
  have : b ≠ r := fun e => by rw [e, hr] at hb; cases hb
  simp only [upd, if_neg this]; exact h b o hb
theorem Sub.new {H H' : DHeap} (h : Sub H H') {r : Nat} (hr : H' r = none) (x : Option DObj) : Sub H (upd H' r x) := h.up (h.lo hr) x
theorem Sub.both {H H' : DHeap} (h : Sub H H') (r : Nat) (x : Option DObj) : Sub (upd H r x) (upd H' r x) := fun b o hb => by
  simp only [upd] at hb ⊢; split <;> rename_i e
  · rwa [if_pos e] at hb
  · rw [if_neg e] at hb; exact h b o hb

/-- v is nil, or a slice over a whole block of the call's own; the blocks of H are there; there may be others. -/
def OwnJ (H : DHeap) (e : TypeId) (size n : Nat) (cs : List DVal) (v : DVal) (H' : DHeap) : Prop :=
  (n = 0 ∧ cs = [] ∧ v = .nilSlice ∧ Sub H H') ∨ ∃ r, H r = none ∧ cs.length = n * size ∧ v = .oslice size r 0 n n ∧ H' r = some (.cells cs e) ∧ Sub H H'

section
variable {P : Program} {G : Nat → DVal} {H H' : DHeap} {e : TypeId} {size n : Nat} {cs : List DVal} {v : DVal}

theorem OwnJ.nil (e : TypeId) (size : Nat) (h : Sub H H') : OwnJ H e size 0 [] .nilSlice H' := .inl ⟨rfl, rfl, rfl, h⟩
theorem OwnA.j (h : OwnA H e size n cs v H') : OwnJ H e size n cs v H' := by
  rcases h with ⟨a, b, c, rfl⟩ | ⟨r, a, b, c, rfl⟩
  · exact .inl ⟨a, b, c, .refl _⟩
  · exact .inr ⟨r, a, b, c, upd_same _ _ _, (Sub.refl H).up a _⟩
theorem OwnJ.sub (h : OwnJ H e size n cs v H') : Sub H H' := by
  rcases h with ⟨_, _, _, h⟩ | ⟨_, _, _, _, _, h⟩ <;> exact h
theorem OwnJ.keep (h : OwnJ H e size n cs v H') {r : Nat} {o : DObj} (hr : H r = some o) : H' r = some o := h.sub r o hr
theorem OwnJ.more (h : OwnJ H e size n cs v H') {H2 : DHeap} (k : Sub H' H2) : OwnJ H e size n cs v H2 := by
  rcases h with ⟨a, b, c, d⟩ | ⟨r, a, b, c, d, f⟩
  · exact .inl ⟨a, b, c, d.trans k⟩
  · exact .inr ⟨r, a, b, c, k _ _ d, f.trans k⟩
theorem OwnJ.new (h : OwnJ H e size n cs v H') {r : Nat} (hr : H' r = none) (x : Option DObj) : OwnJ H e size n cs v (upd H' r x) := h.more ((Sub.refl H').up hr x)
theorem OwnJ.less (h : OwnJ H e size n cs v H') {H1 : DHeap} (k : Sub H1 H) : OwnJ H1 e size n cs v H' := by
  rcases h with ⟨a, b, c, d⟩ | ⟨r, a, b, c, d, f⟩
  · exact .inl ⟨a, b, c, k.trans d⟩
  · exact .inr ⟨r, k.lo a, b, c, d, k.trans f⟩
theorem OwnJ.frame (h : OwnJ H e size n cs v H') {r : Nat} (hr : H' r = none) (o : DObj) : OwnJ (upd H r (some o)) e size n cs v (upd H' r (some o)) := by
  rcases h with ⟨a, b, c, d⟩ | ⟨r0, a, b, c, d, f⟩
  · exact .inl ⟨a, b, c, d.both _ _⟩
  · have : r0 ≠ r := fun e => by rw [e, hr] at d; cases d
    exact .inr ⟨r0, by simp [upd, this, a], b, c, by simp [upd, this, d], f.both _ _⟩
theorem OwnJ.exact (h : OwnJ H e size n cs v H') : ∃ H1, OwnA H e size n cs v H1 ∧ Sub H1 H' := by
  rcases h with ⟨a, b, c, d⟩ | ⟨r, a, b, c, d, f⟩
  · exact ⟨H, .inl ⟨a, b, c, rfl⟩, d⟩
  · refine ⟨_, .inr ⟨r, a, b, c, rfl⟩, fun k o hk => ?_⟩
    simp only [upd] at hk
    split at hk
    · rename_i e; subst e; cases hk; exact d
    · exact f k o hk

theorem OwnJ.append {m bytes : Nat} {news : List DVal} {dst : Option Nat} {K : DK} {env : Nat → DVal} (hv : OwnJ H e size n cs v H') (hm : news.length = m * size) (hb : (n + m) * bytes ≤ 35184372088832)
    (hK : ∀ v' H2, OwnJ H e size (n + m) (cs ++ news) v' H2 → K ⟨updO env dst v', H2⟩) : dAppendTo e size bytes m news dst v K ⟨env, H'⟩ := by
  rcases hv with ⟨rfl, rfl, rfl, hs⟩ | ⟨r, hr, hl, rfl, hc, hs⟩
  · simp only [dAppendTo]
    refine ⟨fun h0 => ?_, fun h0 => ⟨by simpa using hb, fun r hr => ?_⟩⟩
    · subst h0
      have : news = [] := List.length_eq_zero_iff.1 (by omega)
      subst this
      exact hK _ _ (.inl ⟨rfl, rfl, rfl, hs⟩)
    · refine hK _ _ (.inr ⟨r, hs.lo hr, by simpa using hm, by simp, by rw [List.nil_append]; exact upd_same _ _ _, hs.new hr _⟩)
  · simp only [dAppendTo, true_and]
    rw [hc]
    by_cases h0 : m = 0
    · subst h0
      have : news = [] := List.length_eq_zero_iff.1 (by omega)
      subst this
      rw [dAppendO_in (by omega)]
      refine ⟨by simp [hl], ?_⟩
      have := hK (.oslice size r 0 (n + 0) n) H' (.inr ⟨r, hr, by simpa using hl, by simp, by simpa using hc, hs⟩)
      simp only [splice, List.length_nil, List.append_nil, Nat.add_zero, List.take_append_drop]
      rw [upd_self hc]
      simpa using this
    · rw [dAppendO_out (by omega) (by omega)]
      refine ⟨by omega, hb, fun r' hr' => ?_⟩
      dsimp only at hr' ⊢
      by_cases e1 : r' = r
      · subst e1
        refine hK _ _ (.inr ⟨r', hr, ?_, rfl, ?_, ?_⟩)
        · simp [hl, hm, Nat.add_mul]
        · rw [upd_same, List.take_of_length_le (by omega)]
        · exact (hs.up hr _).up hr _
      · have hr2 : H' r' = none := by simpa [upd, e1] using hr'
        refine hK _ _ (.inr ⟨r', hs.lo hr2, ?_, rfl, ?_, ?_⟩)
        · simp [hl, hm, Nat.add_mul]
        · rw [upd_same, List.take_of_length_le (by omega)]
        · exact (hs.up hr _).up (hs.lo hr2) _

theorem OwnJ.appendO {r m bytes : Nat} {news : List DVal} {dst : Option Nat} {K : DK} {env : Nat → DVal} (hv : OwnJ H e size n cs (.oslice size r 0 n n) H') (hm : news.length = m * size) (hb : (n + m) * bytes ≤ 35184372088832)
    (hK : ∀ v' H2, OwnJ H e size (n + m) (cs ++ news) v' H2 → K ⟨updO env dst v', H2⟩) : dAppendO e size bytes r 0 n n m news dst K ⟨env, H'⟩ (some (.cells cs e)) := by
  have h := OwnJ.append hv hm hb hK
  have hc : H' r = some (.cells cs e) := by
    rcases hv with ⟨_, _, h, _⟩ | ⟨r', _, _, h, hc, _⟩
    · cases h
    · cases h; exact hc
  simp only [dAppendTo, true_and, hc] at h
  exact h

theorem OwnJ.ghost (hv : OwnJ H e size n cs v H') : GhostE H' v H (.vslice cs n) := by
  obtain ⟨H1, h1, h2⟩ := hv.exact
  exact (GhostE.sub h2 v).trans h1.ghost
theorem OwnJ.fin {R : DEnd → DHeap → Prop} (hv : OwnJ H e size n cs v H') (h : R (.ret (.vslice cs n)) H) : DFin R v H' := .ghost hv.ghost (.refl h)
theorem DCalls.frozenJ {f : FuncId} {args : List DVal} (h : DCalls P G f args H fun x H' => ∃ v, x = .ret v ∧ OwnJ H e size n cs v H') : DCalls P G f args H (DRet (.vslice cs n) H) :=
  h.ghost fun x H' ⟨v, h1, h2⟩ => ⟨v, _, H, h1, h2.ghost, rfl, rfl⟩
theorem DCalls.preSub {f : FuncId} {args : List DVal} {R : DEnd → DHeap → Prop} (k : Sub H H') (h : DCalls P G f args H R) : DCalls P G f args H' R := DCalls.pre (GhostE.sub k _) h
/-- A slot's slice is seen as memory that lasts. -/
theorem GhostS.fzSlot {env : Nat → DVal} {k : Nat} (hv : OwnJ H e size n cs (env k) H') : GhostS G ⟨env, H'⟩ ⟨upd env k (.vslice cs n), H⟩ := fun w hH hG => by
  obtain ⟨h1, h2, h3⟩ := hv.ghost w hH
  refine ⟨h1, h2, hG.lasts (lasts_sub hv.sub w), fun i x hx => ?_⟩
  by_cases e : i = k
  · subst e; simp only [upd_same]; exact h3 x hx
  · simp only [upd, if_neg e]; exact Rel.lasts (lasts_sub hv.sub w) _ _ hx
theorem DLoop.runG {body : (DExit → DS → Prop) → DK} {Q : DExit → DS → Prop} {s : DS} {ι : Type} (I : ι → (Nat → DVal) → DHeap → Prop) (μ : ι → Nat) (i : ι) (s0 : DS) (hg : GhostS G s s0) (h0 : I i s0.env s0.heap)
    (hr : ∀ i env heap, I i env heap → body (DSeqQ (fun s1 => ∃ j s2, GhostS G s1 s2 ∧ I j s2.env s2.heap ∧ μ j < μ i) Q) ⟨env, heap⟩) : DLoop G body Q s :=
  ⟨ι, fun i s => I i s.env s.heap, μ, ⟨i, s0, hg, h0⟩, fun i s h => hr i s.env s.heap h⟩
theorem OwnJ.cell1 (h : OwnJ H e size n cs v H') : v.cells = [v] ∧ v.one = true := by
  rcases h with ⟨_, _, rfl, _⟩ | ⟨_, _, _, rfl, _⟩ <;> exact ⟨rfl, rfl⟩
end
end Go.Dl

-- Library functions at the data level: FormatInt, IndexByte.
namespace Go.Dl
open Go Go.Proofs Go.RowKit
set_option maxRecDepth 10000
attribute [go_sem] List.getElem?_toArray List.getElem?_cons_zero List.getElem?_cons_succ List.append_eq

theorem Quiet.grow (w : World) (k : Nat) (os : Array Obj) : Quiet w (Sort.grow (w.drewN k) os) :=
  ⟨rfl, rfl, rfl, Lib.size_grow w k os, fun b hb => Lib.heap_grow_old w k os b hb⟩
theorem tab_is {P : Program} {w : World} {H : DHeap} {G : Nat → DVal} {g : Nat} {name : String} {k : IntKind} {zs : List Int} (hg : P.globalNamed name = some g) (h : GOk G w H) (e : G g = .vptr (zs.map fun z => .int k z) 0) : Lib.TabIs P w name k zs := by
  have hx := h.exact g _ e
  have hr := h.rel g
  rw [e] at hr
  have hc := tab_cells hg hr rfl
  unfold Lib.TabIs World.var?
  rw [hg]
  simp only [Option.bind_some]
  cases ho : w.heap[g]? with
  | none => rw [ho] at hx; cases hx
  | some o =>
    cases o with
    | cells c t fz =>
      rw [ho] at hx
      simp only [csize, Option.some.injEq, List.length_map] at hx
      simp only [Option.some.injEq]
      apply Array.ext_getElem?
      intro i
      by_cases hi : i < zs.length
      · have := hc i zs[i] (List.getElem?_eq_getElem hi)
        simp only [World.cell?, ho] at this
        simp [hi]
        simpa using this
      · rw [Array.getElem?_eq_none (by omega), Array.getElem?_eq_none (by simp; omega)]
    | _ => rw [ho] at hx; cases hx

section
variable {G : Nat → DVal} {H : DHeap}
def dPw : List DVal := Lib.pow10Tab.map fun z => .int .u64 z
theorem formatInt_spec (hG : G 2 = .vptr dPw 0) (n : Int) (h : I64 n) :
    DCalls Tryz.prog G 31 [dI n, dI 10] H (DRet (.str (Lib.itoa n)) H) := by
  refine DCalls.quiet Tryz.call31 fun vs w hv hH hg => ?_
  simp only [RelL, Rel] at hv
  obtain ⟨_, _, rfl, rfl, _, _, rfl, rfl, rfl⟩ := hv
  refine (Tryz.strconv_FormatInt_10 n h.1 h.2 w (tab_is (show Tryz.prog.globalNamed "internal/strconv.uint64pow10" = some 2 by kernel_rfl) hg hG)).mono fun e w' ⟨he, k, os, hw⟩ => ?_
  subst he; subst hw
  exact ⟨.grow _ _ _, _, rfl, .ret _ _ (by simp [Rel])⟩
theorem indexByte_spec (s : List UInt8) (c : UInt8) : DCalls Tryz.prog G 77 [.str s, .int .u8 c.toNat] H (DRet (dI (Lib.indexByte s c)) H) := by
  refine DCalls.quiet Tryz.call77 fun vs w hv hH hg => ?_
  simp only [RelL, Rel] at hv
  obtain ⟨_, _, rfl, rfl, _, _, rfl, rfl, rfl⟩ := hv
  refine (Tryz.strings_IndexByte ⟨⟨s⟩⟩ c.toNat w).mono fun e w' ⟨he, hw⟩ => ?_
  subst he; subst hw
  exact ⟨.refl _, _, rfl, .ret _ _ (by simp [Rel])⟩
end
end Go.Dl

-- Chapter 2: tokens: the plain laws, part 1: the words, the symbols, what a line yields.
namespace Go.Dl
open Go
set_option maxRecDepth 10000

def keysL : List (List UInt8) := [[97, 98, 111, 114, 116],
  [97, 98, 115],
  [97, 99, 99, 101, 112, 116],
  [97, 99, 99, 101, 115, 115],
  [97, 108, 105, 97, 115, 101, 100],
  [97, 108, 108],
  [97, 110, 100],
  [97, 114, 114, 97, 121],
  [98, 101, 103, 105, 110],
  [98, 111, 100, 121],
  [99, 97, 115, 101],
  [99, 111, 110, 115, 116, 97, 110, 116],
  [100, 101, 99, 108, 97, 114, 101],
  [100, 101, 108, 97, 121],
  [100, 111],
  [101, 108, 115, 101],
  [101, 108, 115, 105, 102],
  [101, 110, 100],
  [101, 110, 116, 114, 121],
  [101, 120, 99, 101, 112, 116, 105, 111, 110],
  [101, 120, 105, 116],
  [102, 111, 114],
  [102, 117, 110, 99, 116, 105, 111, 110],
  [103, 101, 110, 101, 114, 105, 99],
  [105, 102],
  [105, 110],
  [105, 115],
  [108, 105, 109, 105, 116, 101, 100],
  [108, 111, 111, 112],
  [109, 111, 100],
  [110, 101, 119],
  [110, 111, 116],
  [110, 117, 108, 108],
  [111, 102],
  [111, 114],
  [111, 116, 104, 101, 114, 115],
  [111, 117, 116],
  [112, 97, 99, 107, 97, 103, 101],
  [112, 114, 97, 103, 109, 97],
  [112, 114, 105, 118, 97, 116, 101],
  [112, 114, 111, 99, 101, 100, 117, 114, 101],
  [112, 114, 111, 116, 101, 99, 116, 101, 100],
  [114, 97, 105, 115, 101],
  [114, 97, 110, 103, 101],
  [114, 101, 99, 111, 114, 100],
  [114, 101, 109],
  [114, 101, 110, 97, 109, 101, 115],
  [114, 101, 113, 117, 101, 117, 101],
  [114, 101, 116, 117, 114, 110],
  [114, 101, 118, 101, 114, 115, 101],
  [115, 101, 108, 101, 99, 116],
  [115, 101, 112, 97, 114, 97, 116, 101],
  [115, 117, 98, 116, 121, 112, 101],
  [116, 97, 115, 107],
  [116, 101, 114, 109, 105, 110, 97, 116, 101],
  [116, 104, 101, 110],
  [116, 121, 112, 101],
  [117, 110, 116, 105, 108],
  [117, 115, 101],
  [119, 104, 101, 110],
  [119, 104, 105, 108, 101],
  [119, 105, 116, 104],
  [120, 111, 114]]
def letterB (c : UInt8) : Bool := decide (65 ≤ c.toNat) && decide (c.toNat ≤ 90) || decide (97 ≤ c.toNat) && decide (c.toNat ≤ 122)
def digitB (c : UInt8) : Bool := decide (48 ≤ c.toNat) && decide (c.toNat ≤ 57)
def wordB (c : UInt8) : Bool := letterB c || digitB c || decide (c = 95)
def wordL (s : List UInt8) : List UInt8 := s.takeWhile wordB
def keyB (s : List UInt8) : Bool := decide (s ∈ keysL)
def nameB (s : List UInt8) : Bool := (match s with | c :: _ => letterB c | [] => false) && decide (s.length ≤ 32) && s.all wordB && !keyB s
def syms2 : List (UInt8 × UInt8) := [(61, 62), (46, 46), (58, 61), (47, 61), (60, 61), (62, 61), (60, 62)]
def syms1 : List UInt8 := [40, 41, 44, 59, 58, 46, 39, 43, 45, 42, 47, 61, 60, 62, 124]
/-- How many bytes the symbol has with which s begins. -/
def symN : List UInt8 → Nat
  | [] => 0
  | [a] => if a ∈ syms1 then 1 else 0
  | a :: b :: _ => if (a, b) ∈ syms2 then 2 else if a ∈ syms1 then 1 else 0
def symB (s : List UInt8) : Bool := decide (s ≠ []) && decide (symN s = s.length)
structure Tok where
  kind : Int
  line : Int
  text : List UInt8
  n : Int
  deriving DecidableEq, Inhabited
def tok0 : Tok := ⟨0, 0, [], 0⟩
def mayT (t : Tok) : Bool :=
  if t.kind = 1 then decide (t.n = 0) && nameB t.text else if t.kind = 2 then decide (t.n = 0) && keyB t.text
  else if t.kind = 4 then decide (t.n = 0) && symB t.text else decide (t.kind = 3) && decide (t.text = []) && decide (0 ≤ t.n) && decide (t.n ≤ 2147483647)
def decV (w : List UInt8) : Nat := w.foldl (fun v c => 10 * v + (c.toNat - 48)) 0
def intV (w : List UInt8) : Option Nat := if w.length ≤ 10 ∧ w.all digitB = true ∧ decV w ≤ 2147483647 then some (decV w) else none
/-- The token with which s begins, and how many bytes it has; 0: it is an error. -/
def firstT (s : List UInt8) : Tok × Nat :=
  match s with
  | [] => (tok0, 0)
  | c :: _ => if letterB c then (if keyB (wordL s) then (⟨2, 0, wordL s, 0⟩, (wordL s).length) else if nameB (wordL s) then (⟨1, 0, wordL s, 0⟩, (wordL s).length) else (tok0, 0))
    else if digitB c then (match intV (wordL s) with | some v => (⟨3, 0, [], v⟩, (wordL s).length) | none => (tok0, 0))
    else (⟨4, 0, s.take (symN s), 0⟩, symN s)
def plainB (s : List UInt8) : Bool := s.all fun c => decide (32 ≤ c.toNat) && decide (c.toNat ≤ 126)
def trimL (s : List UInt8) : List UInt8 := s.dropWhile (· == 32)
def isCom : List UInt8 → Bool
  | 45 :: 45 :: _ => true
  | _ => false
/-- What a line yields: tokens with true; false: an error. -/
def yieldF : Nat → List UInt8 → List (Tok × Bool)
  | 0, _ => []
  | k + 1, s =>
    if trimL s = [] ∨ isCom (trimL s) = true then (if plainB (trimL s) then [] else [(tok0, false)])
    else if (firstT (trimL s)).2 = 0 then [((firstT (trimL s)).1, false)]
    else ((firstT (trimL s)).1, true) :: yieldF k ((trimL s).drop (firstT (trimL s)).2)
def yieldsL (s : List UInt8) : List (Tok × Bool) := yieldF (s.length + 1) s

theorem trimL_len (s : List UInt8) : (trimL s).length ≤ s.length := by
  unfold trimL
  exact (List.dropWhile_sublist _).length_le
theorem yieldF_fuel : ∀ (k k' : Nat) (s : List UInt8), s.length < k → s.length < k' → yieldF k s = yieldF k' s
  | 0, _, _, h, _ => by omega
  | _, 0, _, _, h => by omega
  | k + 1, k' + 1, s, h, h' => by
    unfold yieldF
    split
    · rfl
    · rename_i hc
      split
      · rfl
      · rename_i h0
        have hl := trimL_len s
        have hne : trimL s ≠ [] := fun e => hc (.inl e)
        have hpos : 0 < (trimL s).length := List.length_pos_iff.2 hne
        rw [yieldF_fuel k k' _ (by rw [List.length_drop]; omega) (by rw [List.length_drop]; omega)]
theorem yieldsL_eq (s : List UInt8) : yieldsL s =
    if trimL s = [] ∨ isCom (trimL s) = true then (if plainB (trimL s) then [] else [(tok0, false)])
    else if (firstT (trimL s)).2 = 0 then [((firstT (trimL s)).1, false)]
    else ((firstT (trimL s)).1, true) :: yieldsL ((trimL s).drop (firstT (trimL s)).2) := by
  unfold yieldsL
  rw [yieldF]
  split
  · rfl
  · rename_i hc
    split
    · rfl
    · rename_i h0
      have hl := trimL_len s
      have hne : trimL s ≠ [] := fun e => hc (.inl e)
      have hpos : 0 < (trimL s).length := List.length_pos_iff.2 hne
      rw [yieldF_fuel s.length _ ((trimL s).drop (firstT (trimL s)).2) (by rw [List.length_drop]; omega) (Nat.lt_succ_self _)]
/-- Going down: what holds of a line if it holds of what is left behind its first token. -/
theorem yield_ind {p : List UInt8 → Prop} (h : ∀ s, ((firstT (trimL s)).2 ≠ 0 → trimL s ≠ [] → p ((trimL s).drop (firstT (trimL s)).2)) → p s) : ∀ s, p s := by
  intro s
  induction hn : s.length using Nat.strongRecOn generalizing s with
  | ind n ih =>
    subst hn
    refine h s fun h0 hne => ih _ ?_ _ rfl
    have hl := trimL_len s
    have hpos : 0 < (trimL s).length := List.length_pos_iff.2 hne
    rw [List.length_drop]; omega
theorem yields_len : ∀ s : List UInt8, (yieldsL s).length ≤ s.length + 1 :=
  yield_ind fun s ih => by
    rw [yieldsL_eq]
    split
    · split <;> simp
    · rename_i hc
      split
      · simp
      · rename_i h0
        have hne : trimL s ≠ [] := fun e => hc (.inl e)
        have := ih h0 hne
        have hl := trimL_len s
        have hpos : 0 < (trimL s).length := List.length_pos_iff.2 hne
        rw [List.length_drop] at this
        rw [List.length_cons]
        omega
/-- A line's tokens are at most as many as its bytes. -/
theorem yields_ok_len : ∀ s : List UInt8, (∀ p ∈ yieldsL s, p.2 = true) → (yieldsL s).length ≤ s.length :=
  yield_ind fun s ih hok => by
    rw [yieldsL_eq] at hok ⊢
    split
    · rename_i hc
      rw [if_pos hc] at hok
      split
      · simp
      · rename_i hp
        rw [if_neg hp] at hok
        simp at hok
    · rename_i hc
      rw [if_neg hc] at hok
      split
      · rename_i h0
        rw [if_pos h0] at hok
        simp at hok
      · rename_i h0
        rw [if_neg h0] at hok
        have hne : trimL s ≠ [] := fun e => hc (.inl e)
        have := ih h0 hne (fun p hp => hok p (List.mem_cons_of_mem _ hp))
        have hl := trimL_len s
        have hpos : 0 < (trimL s).length := List.length_pos_iff.2 hne
        rw [List.length_drop] at this
        rw [List.length_cons]
        omega
end Go.Dl

-- Chapter 2: tokens: the plain laws, part 2: lines, errors; comments and joined texts.
namespace Go.Dl
open Go
set_option maxRecDepth 10000

theorem word_app (s r : List UInt8) (c : UInt8) (hc : wordB c = false) : wordL (s ++ c :: r) = wordL s := by
  unfold wordL
  rw [List.takeWhile_append]
  split
  · rename_i h
    have : s.takeWhile wordB = s := (List.takeWhile_prefix wordB).eq_of_length h
    rw [this]; simp [hc]
  · rfl
theorem sym_sp (s r : List UInt8) (h : s ≠ []) : symN (s ++ 32 :: r) = symN s := by
  match s, h with
  | [], h => exact absurd rfl h
  | [a], _ =>
    have : (a, (32 : UInt8)) ∉ syms2 := by simp [syms2]
    simp only [List.cons_append, List.nil_append, symN, if_neg this]
  | a :: b :: s, _ => rfl
theorem sym_le (s : List UInt8) : symN s ≤ s.length := by
  match s with
  | [] => exact Nat.le_refl _
  | [a] => simp only [symN]; split <;> simp
  | a :: b :: s => simp only [symN]; split <;> (try split) <;> simp
theorem word_le (s : List UInt8) : (wordL s).length ≤ s.length := (List.takeWhile_sublist _).length_le
theorem first_sp (s r : List UInt8) (h : s ≠ []) : firstT (s ++ 32 :: r) = firstT s := by
  have hw : wordL (s ++ 32 :: r) = wordL s := word_app s r 32 rfl
  have hs := sym_sp s r h
  have ht : (s ++ 32 :: r).take (symN s) = s.take (symN s) := List.take_append_of_le_length (sym_le s)
  match s, h with
  | [], h => exact absurd rfl h
  | c :: s, _ =>
    unfold firstT
    rw [List.cons_append] at hw hs ht ⊢
    dsimp only
    rw [hw, hs, ht]
theorem first_le (s : List UInt8) : (firstT s).2 ≤ s.length := by
  have hw := word_le s
  have hs := sym_le s
  match s with
  | [] => exact Nat.le_refl _
  | c :: s =>
    unfold firstT
    dsimp only
    split
    · split
      · exact hw
      · split
        · exact hw
        · exact Nat.zero_le _
    · split
      · split
        · exact hw
        · exact Nat.zero_le _
      · exact hs
theorem trim_app (s r : List UInt8) (h : trimL s ≠ []) : trimL (s ++ r) = trimL s ++ r := by
  unfold trimL at h ⊢
  rw [List.dropWhile_append]
  split
  · rename_i he
    exact absurd (by simpa using he) h
  · rfl
theorem trim_nil (s r : List UInt8) (h : trimL s = []) : trimL (s ++ r) = trimL r := by
  unfold trimL at h ⊢
  rw [List.dropWhile_append, h]; rfl
theorem com_sp (s r : List UInt8) (h : s ≠ []) : isCom (s ++ 32 :: r) = isCom s := by
  match s, h with
  | [], h => exact absurd rfl h
  | [a], _ =>
    show isCom (a :: 32 :: r) = isCom [a]
    have e : isCom [a] = false := by
      unfold isCom
      split
      · rename_i h; simp at h
      · rfl
    rw [e]
    unfold isCom
    split
    · rename_i h; simp at h
    · rfl
  | a :: b :: s, _ =>
    show isCom (a :: b :: (s ++ 32 :: r)) = isCom (a :: b :: s)
    by_cases h1 : a = 45 ∧ b = 45
    · obtain ⟨rfl, rfl⟩ := h1; rfl
    · have e : ∀ l, isCom (a :: b :: l) = false := fun l => by
        unfold isCom
        split
        · rename_i h; simp at h; exact absurd ⟨h.1, h.2.1⟩ h1
        · rfl
      rw [e, e]
theorem plain_app (s r : List UInt8) : plainB (s ++ r) = (plainB s && plainB r) := by simp [plainB]

/-- A comment at the end of a line changes nothing. -/
theorem yields_com (b : List UInt8) (hb : plainB b = true) : ∀ s : List UInt8, yieldsL (s ++ 32 :: 45 :: 45 :: b) = yieldsL s :=
  yield_ind fun s ih => by
    have hp : plainB (32 :: 45 :: 45 :: b) = true := by
      simpa [plainB] using hb
    rw [yieldsL_eq (s ++ _), yieldsL_eq s]
    by_cases h0 : trimL s = []
    · have e1 : trimL (32 :: 45 :: 45 :: b) = 45 :: 45 :: b := rfl
      have hp2 : plainB (45 :: 45 :: b) = true := by simpa [plainB] using hb
      rw [trim_nil _ _ h0, h0, e1]
      rw [if_pos (.inr rfl), if_pos hp2, if_pos (.inl rfl)]
      rfl
    · rw [trim_app _ _ h0, com_sp _ _ h0, first_sp _ _ h0, plain_app, hp, Bool.and_true]
      have hne : trimL s ++ 32 :: 45 :: 45 :: b ≠ [] := by simp
      simp only [hne, h0, false_or]
      split
      · rfl
      · split
        · rfl
        · rename_i hf
          rw [List.drop_append_of_le_length (first_le _), ih hf h0]

/-- The pieces between the bytes c. -/
def splitBy (c : UInt8) : List UInt8 → List UInt8 → List (List UInt8)
  | [], cur => [cur]
  | b :: s, cur => if b = c then cur :: splitBy c s [] else splitBy c s (cur ++ [b])
theorem splitBy_no (c : UInt8) (w : List UInt8) (h : c ∉ w) : ∀ cur, splitBy c w cur = [cur ++ w] := by
  induction w with
  | nil => intro cur; simp [splitBy]
  | cons b w ih =>
    intro cur
    simp only [List.mem_cons, not_or] at h
    rw [splitBy, if_neg (fun e => h.1 e.symm), ih h.2]; simp
theorem splitBy_at (c : UInt8) (w r : List UInt8) (h : c ∉ w) : ∀ cur, splitBy c (w ++ c :: r) cur = (cur ++ w) :: splitBy c r [] := by
  induction w with
  | nil => intro cur; simp [splitBy]
  | cons b w ih =>
    intro cur
    simp only [List.mem_cons, not_or] at h
    rw [List.cons_append, splitBy, if_neg (fun e => h.1 e.symm), ih h.2]; simp
theorem splitBy_app (c : UInt8) (b : List UInt8) : ∀ (a cur : List UInt8), splitBy c (a ++ c :: b) cur = splitBy c a cur ++ splitBy c b []
  | [], cur => by simp [splitBy]
  | x :: a, cur => by
    rw [List.cons_append, splitBy, splitBy]
    split
    · rw [splitBy_app c b a []]; rfl
    · exact splitBy_app c b a _
theorem splitBy_ne (c : UInt8) : ∀ (a cur : List UInt8), splitBy c a cur ≠ []
  | [], cur => by simp [splitBy]
  | x :: a, cur => by
    rw [splitBy]; split
    · simp
    · exact splitBy_ne c a _
theorem splitBy_mem (c : UInt8) : ∀ (a cur w : List UInt8), c ∉ cur → w ∈ splitBy c a cur → c ∉ w
  | [], cur, w, h, hw => by
    simp only [splitBy, List.mem_singleton] at hw; rw [hw]; exact h
  | x :: a, cur, w, h, hw => by
    rw [splitBy] at hw
    split at hw
    · rcases List.mem_cons.1 hw with rfl | hw
      · exact h
      · exact splitBy_mem c a [] w (by simp) hw
    · rename_i hx
      exact splitBy_mem c a _ w (by simp only [List.mem_append, List.mem_singleton, not_or]; exact ⟨h, fun e => hx e.symm⟩) hw
theorem splitBy_count (c : UInt8) : ∀ (a cur : List UInt8), (splitBy c a cur).length = a.count c + 1
  | [], cur => by simp [splitBy]
  | x :: a, cur => by
    rw [splitBy]
    split
    · rename_i h
      subst h
      rw [List.length_cons, splitBy_count, List.count_cons_self]
    · rename_i h
      rw [splitBy_count, List.count_cons_of_ne (by exact h)]
def sumLen (ls : List (List UInt8)) : Nat := (ls.map fun s => s.length + 1).sum
theorem splitBy_sum (c : UInt8) : ∀ (a cur : List UInt8), sumLen (splitBy c a cur) = a.length + cur.length + 1
  | [], cur => by simp [splitBy, sumLen]
  | x :: a, cur => by
    rw [splitBy]
    split
    · have := splitBy_sum c a []
      simp only [sumLen, List.map_cons, List.sum_cons, List.length_cons, List.length_nil] at this ⊢
      omega
    · have := splitBy_sum c a (cur ++ [x])
      rw [this]; simp only [List.length_append, List.length_cons, List.length_nil]; omega
/-- The lines put together, with line feeds between them. -/
def joinL : List (List UInt8) → List UInt8
  | [] => []
  | [s] => s
  | s :: t :: l => s ++ 10 :: joinL (t :: l)
def linesL (s : List UInt8) : List (List UInt8) := splitBy 10 s []
theorem lines_join : ∀ ls : List (List UInt8), ls ≠ [] → (∀ s ∈ ls, (10 : UInt8) ∉ s) → linesL (joinL ls) = ls
  | [], h, _ => absurd rfl h
  | [s], _, hs => by rw [joinL, linesL, splitBy_no 10 s (hs s (by simp))]; rfl
  | s :: t :: l, _, hs => by
    have := lines_join (t :: l) (by simp) fun u hu => hs u (List.mem_cons_of_mem _ hu)
    rw [linesL] at this ⊢
    rw [joinL, splitBy_at 10 s _ (hs s (by simp)), this]; rfl
theorem join_lines (s : List UInt8) : ∀ cur, joinL (splitBy 10 s cur) = cur ++ s := by
  induction s with
  | nil => intro cur; simp [splitBy, joinL]
  | cons x s ih =>
    intro cur
    rw [splitBy]
    split
    · rename_i h
      subst h
      have := ih []
      cases hsp : splitBy 10 s [] with
      | nil => exact absurd hsp (splitBy_ne _ _ _)
      | cons t l => rw [hsp] at this; rw [joinL, this]; rfl
    · rw [ih]; simp

/-- What all lines yield, each with its number. -/
def allY : List (List UInt8) → Nat → List (Tok × Bool × Int)
  | [], _ => []
  | s :: ls, i => (yieldsL s).map (fun p => ({ p.1 with line := i }, p.2, (i : Int))) ++ allY ls (i + 1)
/-- The first error, with how many tokens there were: its line and its kind. -/
def outY : List (Tok × Bool × Int) → Nat → Option (Int × Int)
  | [], _ => none
  | p :: r, n => if p.2.1 = false then some (p.2.2, 20) else if n = 8192 then some (p.2.2, 3) else outY r (n + 1)
def tokensL (src : List UInt8) : List Tok × Int × Int :=
  if 65536 < src.length then ([], 0, 3) else match outY (allY (linesL src) 1) 0 with
    | some e => ([], e.1, e.2)
    | none => ((allY (linesL src) 1).map (·.1), 0, 0)

theorem allY_app : ∀ (a b : List (List UInt8)) (i : Nat), allY (a ++ b) i = allY a i ++ allY b (i + a.length)
  | [], b, i => by simp [allY]
  | s :: a, b, i => by
    rw [List.cons_append, allY, allY, allY_app a b, List.append_assoc, List.length_cons, Nat.add_assoc, Nat.add_comm 1]
def shiftY (k : Nat) (p : Tok × Bool × Int) : Tok × Bool × Int := ({ p.1 with line := p.1.line + k }, p.2.1, p.2.2 + k)
theorem allY_shift (k : Nat) : ∀ (b : List (List UInt8)) (i : Nat), allY b (i + k) = (allY b i).map (shiftY k)
  | [], i => rfl
  | s :: b, i => by
    rw [allY, allY, List.map_append, show i + k + 1 = (i + 1) + k by omega, allY_shift k b, List.map_map]
    congr 1
theorem outY_app : ∀ (x y : List (Tok × Bool × Int)) (n : Nat), outY (x ++ y) n = match outY x n with | some e => some e | none => outY y (n + x.length)
  | [], y, n => by simp [outY]
  | p :: x, y, n => by
    rw [List.cons_append, outY, outY]
    split
    · rfl
    · split
      · rfl
      · rw [outY_app x y, List.length_cons, Nat.add_assoc, Nat.add_comm 1]
/-- Where there is room enough, the first error is the first thing that is no token. -/
def errY (y : List (Tok × Bool × Int)) : Option (Int × Int) := (y.find? fun p => !p.2.1).map fun p => (p.2.2, 20)
theorem outY_small : ∀ (y : List (Tok × Bool × Int)) (n : Nat), n + y.length ≤ 8192 → outY y n = errY y
  | [], n, _ => rfl
  | p :: y, n, h => by
    rw [List.length_cons] at h
    rw [outY, errY, List.find?_cons]
    cases hp : p.2.1 with
    | false => simp
    | true =>
      rw [if_neg (by simp), if_neg (by omega), outY_small y (n + 1) (by omega)]
      rfl
theorem errY_shift (k : Nat) (y : List (Tok × Bool × Int)) : errY (y.map (shiftY k)) = (errY y).map fun e : Int × Int => (e.1 + (k : Int), e.2) := by
  induction y with
  | nil => rfl
  | cons p y ih =>
    rw [List.map_cons, errY, errY, List.find?_cons, List.find?_cons]
    show (match !p.2.1 with | true => some (shiftY k p) | false => _).map _ = _
    cases hp : p.2.1 with
    | false => simp [shiftY]
    | true => exact ih
theorem allY_len : ∀ (ls : List (List UInt8)) (i : Nat), (allY ls i).length ≤ sumLen ls
  | [], _ => by simp [allY, sumLen]
  | s :: ls, i => by
    have h1 := yields_len s
    have h2 := allY_len ls (i + 1)
    rw [allY, List.length_append, List.length_map]
    simp only [sumLen, List.map_cons, List.sum_cons] at h2 ⊢
    omega
theorem allY_small (src : List UInt8) (i : Nat) : (allY (linesL src) i).length ≤ src.length + 1 := by
  have h1 := allY_len (linesL src) i
  have h2 := splitBy_sum 10 src []
  rw [linesL] at h1 ⊢
  rw [h2] at h1
  simpa using h1
theorem tokens_small {src : List UInt8} (h : src.length ≤ 8191) : tokensL src = match errY (allY (linesL src) 1) with
    | some e => ([], e.1, e.2)
    | none => ((allY (linesL src) 1).map (·.1), 0, 0) := by
  have := allY_small src 1
  rw [tokensL, if_neg (by omega), outY_small _ _ (by omega)]
theorem errY_kind {y : List (Tok × Bool × Int)} {e : Int × Int} (h : errY y = some e) : e.2 = 20 := by
  rw [errY, Option.map_eq_some_iff] at h
  obtain ⟨_, _, rfl⟩ := h; rfl

/-- The tokens of two texts with a line feed between them. -/
theorem tokens_join {a b : List UInt8} (ha : a.length ≤ 1500) (hb : b.length ≤ 1500) : tokensL (a ++ 10 :: b) =
    if (tokensL a).2.2 ≠ 0 then ([], (tokensL a).2.1, (tokensL a).2.2)
    else if (tokensL b).2.2 ≠ 0 then ([], (tokensL b).2.1 + ((a.count 10 + 1 : Nat) : Int), (tokensL b).2.2)
    else ((tokensL a).1 ++ (tokensL b).1.map (fun t => { t with line := t.line + ((a.count 10 + 1 : Nat) : Int) }), 0, 0) := by
  rw [tokens_small (src := a) (by omega), tokens_small (src := b) (by omega), tokens_small (src := a ++ 10 :: b) (by simp; omega)]
  have hl : linesL (a ++ 10 :: b) = linesL a ++ linesL b := splitBy_app 10 b a []
  have hk : (linesL a).length = a.count 10 + 1 := splitBy_count 10 a []
  rw [hl, allY_app, hk, allY_shift]
  generalize hx : allY (linesL a) 1 = x
  generalize hy : allY (linesL b) 1 = y
  generalize a.count 10 + 1 = k
  have happ : errY (x ++ y.map (shiftY k)) = match errY x with | some e => some e | none => (errY y).map fun e : Int × Int => (e.1 + (k : Int), e.2) := by
    rw [← errY_shift]
    unfold errY
    rw [List.find?_append]
    cases x.find? fun p => !p.2.1 <;> rfl
  rw [happ]
  cases hex : errY x with
  | some e => have := errY_kind hex; simp [this]
  | none =>
    cases hey : errY y with
    | some e => have := errY_kind hey; simp [this]
    | none =>
      simp only [Option.map_none, ne_eq, not_true, if_false, List.map_append, List.map_map]
      rfl
/-- A comment at the end of one of the lines. -/
theorem allY_com (b : List UInt8) (hb : plainB b = true) : ∀ (ls : List (List UInt8)) (k i : Nat), allY (ls.modify k fun s => s ++ 32 :: 45 :: 45 :: b) i = allY ls i
  | [], k, i => by cases k <;> rfl
  | s :: ls, 0, i => by
    show allY ((s ++ 32 :: 45 :: 45 :: b) :: ls) i = _
    rw [allY, allY, yields_com b hb]
  | s :: ls, k + 1, i => by
    show allY (s :: ls.modify k _) i = _
    rw [allY, allY, allY_com b hb ls k]
end Go.Dl
