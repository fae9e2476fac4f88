/- The data level and the contracts of the functions that are reached (part 5). -/
import Derived.Test.YtimnmempnhjbfaaProg
import Derived.KernelRfl
import Derived.Test.YtimnmempnhjbfaaMbd
set_option linter.unusedSimpArgs false
set_option linter.unusedVariables false
-- Facts on the types of this seat, each by the kernel. MADE BY PROGRAM (facts.py).
namespace Go.Dl
open Go Go.Proofs
theorem cells_0 : Try.prog.cellsOf 0 = 1 := by kernel_rfl
theorem bytes_0 : Try.prog.bytesOf 0 = 0 := by kernel_rfl
theorem info_0 : (Try.prog.info? 0).isSome = true := by kernel_rfl
theorem agg_0 : aggB Try.prog 0 = some false := by kernel_rfl
theorem zero_0 : zeroOf Try.prog 0 = some (.tuple []) := by kernel_rfl
theorem cells_1 : Try.prog.cellsOf 1 = 1 := by kernel_rfl
theorem bytes_1 : Try.prog.bytesOf 1 = 8 := by kernel_rfl
theorem info_1 : (Try.prog.info? 1).isSome = true := by kernel_rfl
theorem agg_1 : aggB Try.prog 1 = some false := by kernel_rfl
theorem zero_1 : zeroOf Try.prog 1 = some (.nilFunc) := by kernel_rfl
theorem cells_2 : Try.prog.cellsOf 2 = 1 := by kernel_rfl
theorem bytes_2 : Try.prog.bytesOf 2 = 8 := by kernel_rfl
theorem info_2 : (Try.prog.info? 2).isSome = true := by kernel_rfl
theorem agg_2 : aggB Try.prog 2 = some false := by kernel_rfl
theorem zero_2 : zeroOf Try.prog 2 = some (.int .i64 0) := by kernel_rfl
theorem cells_3 : Try.prog.cellsOf 3 = 1 := by kernel_rfl
theorem bytes_3 : Try.prog.bytesOf 3 = 8 := by kernel_rfl
theorem info_3 : (Try.prog.info? 3).isSome = true := by kernel_rfl
theorem agg_3 : aggB Try.prog 3 = some false := by kernel_rfl
theorem zero_3 : zeroOf Try.prog 3 = some (.int .i64 0) := by kernel_rfl
theorem cells_4 : Try.prog.cellsOf 4 = 1 := by kernel_rfl
theorem bytes_4 : Try.prog.bytesOf 4 = 1 := by kernel_rfl
theorem info_4 : (Try.prog.info? 4).isSome = true := by kernel_rfl
theorem agg_4 : aggB Try.prog 4 = some false := by kernel_rfl
theorem zero_4 : zeroOf Try.prog 4 = some (.bool false) := by kernel_rfl
theorem cells_5 : Try.prog.cellsOf 5 = 1 := by kernel_rfl
theorem bytes_5 : Try.prog.bytesOf 5 = 1 := by kernel_rfl
theorem info_5 : (Try.prog.info? 5).isSome = true := by kernel_rfl
theorem agg_5 : aggB Try.prog 5 = some false := by kernel_rfl
theorem zero_5 : zeroOf Try.prog 5 = some (.int .u8 0) := by kernel_rfl
theorem cells_6 : Try.prog.cellsOf 6 = 1 := by kernel_rfl
theorem bytes_6 : Try.prog.bytesOf 6 = 1 := by kernel_rfl
theorem info_6 : (Try.prog.info? 6).isSome = true := by kernel_rfl
theorem agg_6 : aggB Try.prog 6 = some false := by kernel_rfl
theorem zero_6 : zeroOf Try.prog 6 = some (.int .u8 0) := by kernel_rfl
theorem cells_7 : Try.prog.cellsOf 7 = 4 := by kernel_rfl
theorem bytes_7 : Try.prog.bytesOf 7 = 24 := by kernel_rfl
theorem info_7 : (Try.prog.info? 7).isSome = true := by kernel_rfl
theorem agg_7 : aggB Try.prog 7 = some true := by kernel_rfl
theorem bok_7 : buildOk Try.prog 7 = true := by kernel_rfl
theorem zero_7 : zeroOf Try.prog 7 = some (.agg [.int .i64 0, .int .i64 0, .bool false, .int .u8 0]) := by kernel_rfl
theorem cells_8 : Try.prog.cellsOf 8 = 4 := by kernel_rfl
theorem bytes_8 : Try.prog.bytesOf 8 = 24 := by kernel_rfl
theorem info_8 : (Try.prog.info? 8).isSome = true := by kernel_rfl
theorem agg_8 : aggB Try.prog 8 = some true := by kernel_rfl
theorem bok_8 : buildOk Try.prog 8 = true := by kernel_rfl
theorem zero_8 : zeroOf Try.prog 8 = some (.agg [.int .i64 0, .int .i64 0, .bool false, .int .u8 0]) := by kernel_rfl
theorem cells_9 : Try.prog.cellsOf 9 = 1 := by kernel_rfl
theorem bytes_9 : Try.prog.bytesOf 9 = 16 := by kernel_rfl
theorem info_9 : (Try.prog.info? 9).isSome = true := by kernel_rfl
theorem agg_9 : aggB Try.prog 9 = some false := by kernel_rfl
theorem zero_9 : zeroOf Try.prog 9 = some (.str []) := by kernel_rfl
theorem cells_10 : Try.prog.cellsOf 10 = 1 := by kernel_rfl
theorem bytes_10 : Try.prog.bytesOf 10 = 16 := by kernel_rfl
theorem info_10 : (Try.prog.info? 10).isSome = true := by kernel_rfl
theorem agg_10 : aggB Try.prog 10 = some false := by kernel_rfl
theorem zero_10 : zeroOf Try.prog 10 = some (.str []) := by kernel_rfl
theorem cells_11 : Try.prog.cellsOf 11 = 1 := by kernel_rfl
theorem bytes_11 : Try.prog.bytesOf 11 = 16 := by kernel_rfl
theorem info_11 : (Try.prog.info? 11).isSome = true := by kernel_rfl
theorem agg_11 : aggB Try.prog 11 = some false := by kernel_rfl
theorem zero_11 : zeroOf Try.prog 11 = some (.str []) := by kernel_rfl
theorem cells_12 : Try.prog.cellsOf 12 = 1 := by kernel_rfl
theorem bytes_12 : Try.prog.bytesOf 12 = 8 := by kernel_rfl
theorem info_12 : (Try.prog.info? 12).isSome = true := by kernel_rfl
theorem agg_12 : aggB Try.prog 12 = some false := by kernel_rfl
theorem zero_12 : zeroOf Try.prog 12 = some (.int .u64 0) := by kernel_rfl
theorem cells_13 : Try.prog.cellsOf 13 = 2 := by kernel_rfl
theorem bytes_13 : Try.prog.bytesOf 13 = 24 := by kernel_rfl
theorem info_13 : (Try.prog.info? 13).isSome = true := by kernel_rfl
theorem agg_13 : aggB Try.prog 13 = some true := by kernel_rfl
theorem bok_13 : buildOk Try.prog 13 = true := by kernel_rfl
theorem zero_13 : zeroOf Try.prog 13 = some (.agg [.str [], .int .u64 0]) := by kernel_rfl
theorem cells_14 : Try.prog.cellsOf 14 = 2 := by kernel_rfl
theorem bytes_14 : Try.prog.bytesOf 14 = 24 := by kernel_rfl
theorem info_14 : (Try.prog.info? 14).isSome = true := by kernel_rfl
theorem agg_14 : aggB Try.prog 14 = some true := by kernel_rfl
theorem bok_14 : buildOk Try.prog 14 = true := by kernel_rfl
theorem zero_14 : zeroOf Try.prog 14 = some (.agg [.str [], .int .u64 0]) := by kernel_rfl
theorem cells_15 : Try.prog.cellsOf 15 = 1 := by kernel_rfl
theorem bytes_15 : Try.prog.bytesOf 15 = 8 := by kernel_rfl
theorem info_15 : (Try.prog.info? 15).isSome = true := by kernel_rfl
theorem agg_15 : aggB Try.prog 15 = some false := by kernel_rfl
theorem zero_15 : zeroOf Try.prog 15 = some (.nilPtr) := by kernel_rfl
theorem cells_16 : Try.prog.cellsOf 16 = 1 := by kernel_rfl
theorem bytes_16 : Try.prog.bytesOf 16 = 8 := by kernel_rfl
theorem info_16 : (Try.prog.info? 16).isSome = true := by kernel_rfl
theorem agg_16 : aggB Try.prog 16 = some false := by kernel_rfl
theorem zero_16 : zeroOf Try.prog 16 = some (.nilPtr) := by kernel_rfl
theorem cells_17 : Try.prog.cellsOf 17 = 1 := by kernel_rfl
theorem bytes_17 : Try.prog.bytesOf 17 = 8 := by kernel_rfl
theorem info_17 : (Try.prog.info? 17).isSome = true := by kernel_rfl
theorem agg_17 : aggB Try.prog 17 = some false := by kernel_rfl
theorem zero_17 : zeroOf Try.prog 17 = some (.nilPtr) := by kernel_rfl
theorem cells_18 : Try.prog.cellsOf 18 = 1 := by kernel_rfl
theorem bytes_18 : Try.prog.bytesOf 18 = 8 := by kernel_rfl
theorem info_18 : (Try.prog.info? 18).isSome = true := by kernel_rfl
theorem agg_18 : aggB Try.prog 18 = some true := by kernel_rfl
theorem bok_18 : buildOk Try.prog 18 = true := by kernel_rfl
theorem zero_18 : zeroOf Try.prog 18 = some (.agg [.nilPtr]) := by kernel_rfl
theorem cells_19 : Try.prog.cellsOf 19 = 1 := by kernel_rfl
theorem bytes_19 : Try.prog.bytesOf 19 = 8 := by kernel_rfl
theorem info_19 : (Try.prog.info? 19).isSome = true := by kernel_rfl
theorem agg_19 : aggB Try.prog 19 = some true := by kernel_rfl
theorem bok_19 : buildOk Try.prog 19 = true := by kernel_rfl
theorem zero_19 : zeroOf Try.prog 19 = some (.agg [.nilPtr]) := by kernel_rfl
theorem cells_20 : Try.prog.cellsOf 20 = 1 := by kernel_rfl
theorem bytes_20 : Try.prog.bytesOf 20 = 16 := by kernel_rfl
theorem info_20 : (Try.prog.info? 20).isSome = true := by kernel_rfl
theorem agg_20 : aggB Try.prog 20 = some false := by kernel_rfl
theorem zero_20 : zeroOf Try.prog 20 = some (.nilIface) := by kernel_rfl
theorem cells_21 : Try.prog.cellsOf 21 = 1 := by kernel_rfl
theorem bytes_21 : Try.prog.bytesOf 21 = 4 := by kernel_rfl
theorem info_21 : (Try.prog.info? 21).isSome = true := by kernel_rfl
theorem agg_21 : aggB Try.prog 21 = some false := by kernel_rfl
theorem zero_21 : zeroOf Try.prog 21 = some (.int .i32 0) := by kernel_rfl
theorem cells_22 : Try.prog.cellsOf 22 = 1 := by kernel_rfl
theorem bytes_22 : Try.prog.bytesOf 22 = 24 := by kernel_rfl
theorem info_22 : (Try.prog.info? 22).isSome = true := by kernel_rfl
theorem agg_22 : aggB Try.prog 22 = some false := by kernel_rfl
theorem zero_22 : zeroOf Try.prog 22 = some (.nilSlice) := by kernel_rfl
theorem cells_23 : Try.prog.cellsOf 23 = 1 := by kernel_rfl
theorem bytes_23 : Try.prog.bytesOf 23 = 8 := by kernel_rfl
theorem info_23 : (Try.prog.info? 23).isSome = true := by kernel_rfl
theorem agg_23 : aggB Try.prog 23 = some false := by kernel_rfl
theorem zero_23 : zeroOf Try.prog 23 = some (.nilFunc) := by kernel_rfl
theorem cells_24 : Try.prog.cellsOf 24 = 1 := by kernel_rfl
theorem bytes_24 : Try.prog.bytesOf 24 = 8 := by kernel_rfl
theorem info_24 : (Try.prog.info? 24).isSome = true := by kernel_rfl
theorem agg_24 : aggB Try.prog 24 = some false := by kernel_rfl
theorem zero_24 : zeroOf Try.prog 24 = some (.int .i64 0) := by kernel_rfl
theorem cells_25 : Try.prog.cellsOf 25 = 1 := by kernel_rfl
theorem bytes_25 : Try.prog.bytesOf 25 = 0 := by kernel_rfl
theorem info_25 : (Try.prog.info? 25).isSome = true := by kernel_rfl
theorem agg_25 : aggB Try.prog 25 = some false := by kernel_rfl
theorem zero_25 : zeroOf Try.prog 25 = some (.tuple [.nilSlice, .int .i64 0]) := by kernel_rfl
theorem cells_26 : Try.prog.cellsOf 26 = 1 := by kernel_rfl
theorem bytes_26 : Try.prog.bytesOf 26 = 8 := by kernel_rfl
theorem info_26 : (Try.prog.info? 26).isSome = true := by kernel_rfl
theorem agg_26 : aggB Try.prog 26 = some false := by kernel_rfl
theorem zero_26 : zeroOf Try.prog 26 = some (.nilFunc) := by kernel_rfl
theorem cells_27 : Try.prog.cellsOf 27 = 1 := by kernel_rfl
theorem bytes_27 : Try.prog.bytesOf 27 = 0 := by kernel_rfl
theorem info_27 : (Try.prog.info? 27).isSome = true := by kernel_rfl
theorem agg_27 : aggB Try.prog 27 = some false := by kernel_rfl
theorem zero_27 : zeroOf Try.prog 27 = some (.tuple [.nilSlice, .int .i64 0]) := by kernel_rfl
theorem cells_28 : Try.prog.cellsOf 28 = 1 := by kernel_rfl
theorem bytes_28 : Try.prog.bytesOf 28 = 8 := by kernel_rfl
theorem info_28 : (Try.prog.info? 28).isSome = true := by kernel_rfl
theorem agg_28 : aggB Try.prog 28 = some false := by kernel_rfl
theorem zero_28 : zeroOf Try.prog 28 = some (.nilFunc) := by kernel_rfl
theorem cells_29 : Try.prog.cellsOf 29 = 1 := by kernel_rfl
theorem bytes_29 : Try.prog.bytesOf 29 = 0 := by kernel_rfl
theorem info_29 : (Try.prog.info? 29).isSome = true := by kernel_rfl
theorem agg_29 : aggB Try.prog 29 = some false := by kernel_rfl
theorem zero_29 : zeroOf Try.prog 29 = some (.tuple [.nilSlice, .int .i64 0, .int .i64 0]) := by kernel_rfl
theorem cells_30 : Try.prog.cellsOf 30 = 1 := by kernel_rfl
theorem bytes_30 : Try.prog.bytesOf 30 = 8 := by kernel_rfl
theorem info_30 : (Try.prog.info? 30).isSome = true := by kernel_rfl
theorem agg_30 : aggB Try.prog 30 = some false := by kernel_rfl
theorem zero_30 : zeroOf Try.prog 30 = some (.nilFunc) := by kernel_rfl
theorem cells_31 : Try.prog.cellsOf 31 = 1 := by kernel_rfl
theorem bytes_31 : Try.prog.bytesOf 31 = 0 := by kernel_rfl
theorem info_31 : (Try.prog.info? 31).isSome = true := by kernel_rfl
theorem agg_31 : aggB Try.prog 31 = some false := by kernel_rfl
theorem zero_31 : zeroOf Try.prog 31 = some (.tuple [.nilSlice, .int .i64 0, .int .i64 0]) := by kernel_rfl
theorem cells_32 : Try.prog.cellsOf 32 = 1 := by kernel_rfl
theorem bytes_32 : Try.prog.bytesOf 32 = 8 := by kernel_rfl
theorem info_32 : (Try.prog.info? 32).isSome = true := by kernel_rfl
theorem agg_32 : aggB Try.prog 32 = some false := by kernel_rfl
theorem zero_32 : zeroOf Try.prog 32 = some (.nilFunc) := by kernel_rfl
theorem cells_33 : Try.prog.cellsOf 33 = 1 := by kernel_rfl
theorem bytes_33 : Try.prog.bytesOf 33 = 8 := by kernel_rfl
theorem info_33 : (Try.prog.info? 33).isSome = true := by kernel_rfl
theorem agg_33 : aggB Try.prog 33 = some false := by kernel_rfl
theorem zero_33 : zeroOf Try.prog 33 = some (.nilFunc) := by kernel_rfl
theorem cells_34 : Try.prog.cellsOf 34 = 1 := by kernel_rfl
theorem bytes_34 : Try.prog.bytesOf 34 = 8 := by kernel_rfl
theorem info_34 : (Try.prog.info? 34).isSome = true := by kernel_rfl
theorem agg_34 : aggB Try.prog 34 = some false := by kernel_rfl
theorem zero_34 : zeroOf Try.prog 34 = some (.nilFunc) := by kernel_rfl
theorem cells_35 : Try.prog.cellsOf 35 = 1 := by kernel_rfl
theorem bytes_35 : Try.prog.bytesOf 35 = 8 := by kernel_rfl
theorem info_35 : (Try.prog.info? 35).isSome = true := by kernel_rfl
theorem agg_35 : aggB Try.prog 35 = some false := by kernel_rfl
theorem zero_35 : zeroOf Try.prog 35 = some (.nilFunc) := by kernel_rfl
theorem cells_36 : Try.prog.cellsOf 36 = 1 := by kernel_rfl
theorem bytes_36 : Try.prog.bytesOf 36 = 24 := by kernel_rfl
theorem info_36 : (Try.prog.info? 36).isSome = true := by kernel_rfl
theorem agg_36 : aggB Try.prog 36 = some false := by kernel_rfl
theorem zero_36 : zeroOf Try.prog 36 = some (.nilSlice) := by kernel_rfl
theorem cells_37 : Try.prog.cellsOf 37 = 1 := by kernel_rfl
theorem bytes_37 : Try.prog.bytesOf 37 = 24 := by kernel_rfl
theorem info_37 : (Try.prog.info? 37).isSome = true := by kernel_rfl
theorem agg_37 : aggB Try.prog 37 = some false := by kernel_rfl
theorem zero_37 : zeroOf Try.prog 37 = some (.nilSlice) := by kernel_rfl
theorem cells_38 : Try.prog.cellsOf 38 = 1 := by kernel_rfl
theorem bytes_38 : Try.prog.bytesOf 38 = 8 := by kernel_rfl
theorem info_38 : (Try.prog.info? 38).isSome = true := by kernel_rfl
theorem agg_38 : aggB Try.prog 38 = some false := by kernel_rfl
theorem zero_38 : zeroOf Try.prog 38 = some (.nilFunc) := by kernel_rfl
theorem cells_39 : Try.prog.cellsOf 39 = 1 := by kernel_rfl
theorem bytes_39 : Try.prog.bytesOf 39 = 8 := by kernel_rfl
theorem info_39 : (Try.prog.info? 39).isSome = true := by kernel_rfl
theorem agg_39 : aggB Try.prog 39 = some false := by kernel_rfl
theorem zero_39 : zeroOf Try.prog 39 = some (.nilFunc) := by kernel_rfl
theorem cells_40 : Try.prog.cellsOf 40 = 1 := by kernel_rfl
theorem bytes_40 : Try.prog.bytesOf 40 = 24 := by kernel_rfl
theorem info_40 : (Try.prog.info? 40).isSome = true := by kernel_rfl
theorem agg_40 : aggB Try.prog 40 = some false := by kernel_rfl
theorem zero_40 : zeroOf Try.prog 40 = some (.nilSlice) := by kernel_rfl
theorem cells_41 : Try.prog.cellsOf 41 = 1 := by kernel_rfl
theorem bytes_41 : Try.prog.bytesOf 41 = 8 := by kernel_rfl
theorem info_41 : (Try.prog.info? 41).isSome = true := by kernel_rfl
theorem agg_41 : aggB Try.prog 41 = some false := by kernel_rfl
theorem zero_41 : zeroOf Try.prog 41 = some (.nilFunc) := by kernel_rfl
theorem cells_42 : Try.prog.cellsOf 42 = 1 := by kernel_rfl
theorem bytes_42 : Try.prog.bytesOf 42 = 8 := by kernel_rfl
theorem info_42 : (Try.prog.info? 42).isSome = true := by kernel_rfl
theorem agg_42 : aggB Try.prog 42 = some false := by kernel_rfl
theorem zero_42 : zeroOf Try.prog 42 = some (.nilFunc) := by kernel_rfl
theorem cells_43 : Try.prog.cellsOf 43 = 1 := by kernel_rfl
theorem bytes_43 : Try.prog.bytesOf 43 = 0 := by kernel_rfl
theorem info_43 : (Try.prog.info? 43).isSome = true := by kernel_rfl
theorem agg_43 : aggB Try.prog 43 = some false := by kernel_rfl
theorem zero_43 : zeroOf Try.prog 43 = some (.tuple [.int .i64 0, .int .i64 0, .bool false]) := by kernel_rfl
theorem cells_44 : Try.prog.cellsOf 44 = 1 := by kernel_rfl
theorem bytes_44 : Try.prog.bytesOf 44 = 8 := by kernel_rfl
theorem info_44 : (Try.prog.info? 44).isSome = true := by kernel_rfl
theorem agg_44 : aggB Try.prog 44 = some false := by kernel_rfl
theorem zero_44 : zeroOf Try.prog 44 = some (.nilFunc) := by kernel_rfl
theorem cells_45 : Try.prog.cellsOf 45 = 1 := by kernel_rfl
theorem bytes_45 : Try.prog.bytesOf 45 = 0 := by kernel_rfl
theorem info_45 : (Try.prog.info? 45).isSome = true := by kernel_rfl
theorem agg_45 : aggB Try.prog 45 = some false := by kernel_rfl
theorem zero_45 : zeroOf Try.prog 45 = some (.tuple [.int .i64 0, .bool false]) := by kernel_rfl
theorem cells_46 : Try.prog.cellsOf 46 = 1 := by kernel_rfl
theorem bytes_46 : Try.prog.bytesOf 46 = 8 := by kernel_rfl
theorem info_46 : (Try.prog.info? 46).isSome = true := by kernel_rfl
theorem agg_46 : aggB Try.prog 46 = some false := by kernel_rfl
theorem zero_46 : zeroOf Try.prog 46 = some (.nilFunc) := by kernel_rfl
theorem cells_47 : Try.prog.cellsOf 47 = 1 := by kernel_rfl
theorem bytes_47 : Try.prog.bytesOf 47 = 8 := by kernel_rfl
theorem info_47 : (Try.prog.info? 47).isSome = true := by kernel_rfl
theorem agg_47 : aggB Try.prog 47 = some false := by kernel_rfl
theorem zero_47 : zeroOf Try.prog 47 = some (.nilFunc) := by kernel_rfl
theorem cells_48 : Try.prog.cellsOf 48 = 1 := by kernel_rfl
theorem bytes_48 : Try.prog.bytesOf 48 = 8 := by kernel_rfl
theorem info_48 : (Try.prog.info? 48).isSome = true := by kernel_rfl
theorem agg_48 : aggB Try.prog 48 = some false := by kernel_rfl
theorem zero_48 : zeroOf Try.prog 48 = some (.nilFunc) := by kernel_rfl
theorem cells_49 : Try.prog.cellsOf 49 = 1 := by kernel_rfl
theorem bytes_49 : Try.prog.bytesOf 49 = 8 := by kernel_rfl
theorem info_49 : (Try.prog.info? 49).isSome = true := by kernel_rfl
theorem agg_49 : aggB Try.prog 49 = some false := by kernel_rfl
theorem zero_49 : zeroOf Try.prog 49 = some (.nilFunc) := by kernel_rfl
theorem cells_50 : Try.prog.cellsOf 50 = 1 := by kernel_rfl
theorem bytes_50 : Try.prog.bytesOf 50 = 8 := by kernel_rfl
theorem info_50 : (Try.prog.info? 50).isSome = true := by kernel_rfl
theorem agg_50 : aggB Try.prog 50 = some false := by kernel_rfl
theorem zero_50 : zeroOf Try.prog 50 = some (.nilFunc) := by kernel_rfl
theorem cells_51 : Try.prog.cellsOf 51 = 1 := by kernel_rfl
theorem bytes_51 : Try.prog.bytesOf 51 = 8 := by kernel_rfl
theorem info_51 : (Try.prog.info? 51).isSome = true := by kernel_rfl
theorem agg_51 : aggB Try.prog 51 = some false := by kernel_rfl
theorem zero_51 : zeroOf Try.prog 51 = some (.nilFunc) := by kernel_rfl
theorem cells_52 : Try.prog.cellsOf 52 = 1 := by kernel_rfl
theorem bytes_52 : Try.prog.bytesOf 52 = 24 := by kernel_rfl
theorem info_52 : (Try.prog.info? 52).isSome = true := by kernel_rfl
theorem agg_52 : aggB Try.prog 52 = some false := by kernel_rfl
theorem zero_52 : zeroOf Try.prog 52 = some (.nilSlice) := by kernel_rfl
theorem cells_53 : Try.prog.cellsOf 53 = 1 := by kernel_rfl
theorem bytes_53 : Try.prog.bytesOf 53 = 8 := by kernel_rfl
theorem info_53 : (Try.prog.info? 53).isSome = true := by kernel_rfl
theorem agg_53 : aggB Try.prog 53 = some false := by kernel_rfl
theorem zero_53 : zeroOf Try.prog 53 = some (.nilMap) := by kernel_rfl
theorem cells_54 : Try.prog.cellsOf 54 = 1 := by kernel_rfl
theorem bytes_54 : Try.prog.bytesOf 54 = 2 := by kernel_rfl
theorem info_54 : (Try.prog.info? 54).isSome = true := by kernel_rfl
theorem agg_54 : aggB Try.prog 54 = some false := by kernel_rfl
theorem zero_54 : zeroOf Try.prog 54 = some (.int .u16 0) := by kernel_rfl
theorem cells_55 : Try.prog.cellsOf 55 = 1 := by kernel_rfl
theorem bytes_55 : Try.prog.bytesOf 55 = 8 := by kernel_rfl
theorem info_55 : (Try.prog.info? 55).isSome = true := by kernel_rfl
theorem agg_55 : aggB Try.prog 55 = some false := by kernel_rfl
theorem zero_55 : zeroOf Try.prog 55 = some (.int .u64 0) := by kernel_rfl
theorem cells_56 : Try.prog.cellsOf 56 = 1 := by kernel_rfl
theorem bytes_56 : Try.prog.bytesOf 56 = 8 := by kernel_rfl
theorem info_56 : (Try.prog.info? 56).isSome = true := by kernel_rfl
theorem agg_56 : aggB Try.prog 56 = some false := by kernel_rfl
theorem zero_56 : zeroOf Try.prog 56 = some (.nilFunc) := by kernel_rfl
theorem cells_57 : Try.prog.cellsOf 57 = 1 := by kernel_rfl
theorem bytes_57 : Try.prog.bytesOf 57 = 8 := by kernel_rfl
theorem info_57 : (Try.prog.info? 57).isSome = true := by kernel_rfl
theorem agg_57 : aggB Try.prog 57 = some false := by kernel_rfl
theorem zero_57 : zeroOf Try.prog 57 = some (.nilFunc) := by kernel_rfl
theorem cells_58 : Try.prog.cellsOf 58 = 1 := by kernel_rfl
theorem bytes_58 : Try.prog.bytesOf 58 = 8 := by kernel_rfl
theorem info_58 : (Try.prog.info? 58).isSome = true := by kernel_rfl
theorem agg_58 : aggB Try.prog 58 = some false := by kernel_rfl
theorem zero_58 : zeroOf Try.prog 58 = some (.nilFunc) := by kernel_rfl
theorem cells_59 : Try.prog.cellsOf 59 = 1 := by kernel_rfl
theorem bytes_59 : Try.prog.bytesOf 59 = 8 := by kernel_rfl
theorem info_59 : (Try.prog.info? 59).isSome = true := by kernel_rfl
theorem agg_59 : aggB Try.prog 59 = some false := by kernel_rfl
theorem zero_59 : zeroOf Try.prog 59 = some (.nilFunc) := by kernel_rfl
theorem cells_60 : Try.prog.cellsOf 60 = 3 := by kernel_rfl
theorem bytes_60 : Try.prog.bytesOf 60 = 40 := by kernel_rfl
theorem info_60 : (Try.prog.info? 60).isSome = true := by kernel_rfl
theorem agg_60 : aggB Try.prog 60 = some true := by kernel_rfl
theorem bok_60 : buildOk Try.prog 60 = true := by kernel_rfl
theorem zero_60 : zeroOf Try.prog 60 = some (.agg [.bool false, .int .i64 0, .nilSlice]) := by kernel_rfl
theorem cells_61 : Try.prog.cellsOf 61 = 3 := by kernel_rfl
theorem bytes_61 : Try.prog.bytesOf 61 = 40 := by kernel_rfl
theorem info_61 : (Try.prog.info? 61).isSome = true := by kernel_rfl
theorem agg_61 : aggB Try.prog 61 = some true := by kernel_rfl
theorem bok_61 : buildOk Try.prog 61 = true := by kernel_rfl
theorem zero_61 : zeroOf Try.prog 61 = some (.agg [.bool false, .int .i64 0, .nilSlice]) := by kernel_rfl
theorem cells_62 : Try.prog.cellsOf 62 = 1 := by kernel_rfl
theorem bytes_62 : Try.prog.bytesOf 62 = 8 := by kernel_rfl
theorem info_62 : (Try.prog.info? 62).isSome = true := by kernel_rfl
theorem agg_62 : aggB Try.prog 62 = some false := by kernel_rfl
theorem zero_62 : zeroOf Try.prog 62 = some (.nilFunc) := by kernel_rfl
theorem cells_63 : Try.prog.cellsOf 63 = 1 := by kernel_rfl
theorem bytes_63 : Try.prog.bytesOf 63 = 8 := by kernel_rfl
theorem info_63 : (Try.prog.info? 63).isSome = true := by kernel_rfl
theorem agg_63 : aggB Try.prog 63 = some false := by kernel_rfl
theorem zero_63 : zeroOf Try.prog 63 = some (.nilFunc) := by kernel_rfl
theorem cells_64 : Try.prog.cellsOf 64 = 3 := by kernel_rfl
theorem bytes_64 : Try.prog.bytesOf 64 = 24 := by kernel_rfl
theorem info_64 : (Try.prog.info? 64).isSome = true := by kernel_rfl
theorem agg_64 : aggB Try.prog 64 = some true := by kernel_rfl
theorem bok_64 : buildOk Try.prog 64 = true := by kernel_rfl
theorem zero_64 : zeroOf Try.prog 64 = some (.agg [.bool false, .int .i64 0, .int .i64 0]) := by kernel_rfl
theorem cells_65 : Try.prog.cellsOf 65 = 3 := by kernel_rfl
theorem bytes_65 : Try.prog.bytesOf 65 = 24 := by kernel_rfl
theorem info_65 : (Try.prog.info? 65).isSome = true := by kernel_rfl
theorem agg_65 : aggB Try.prog 65 = some true := by kernel_rfl
theorem bok_65 : buildOk Try.prog 65 = true := by kernel_rfl
theorem zero_65 : zeroOf Try.prog 65 = some (.agg [.bool false, .int .i64 0, .int .i64 0]) := by kernel_rfl
theorem cells_66 : Try.prog.cellsOf 66 = 1 := by kernel_rfl
theorem bytes_66 : Try.prog.bytesOf 66 = 0 := by kernel_rfl
theorem info_66 : (Try.prog.info? 66).isSome = true := by kernel_rfl
theorem agg_66 : aggB Try.prog 66 = some false := by kernel_rfl
theorem zero_66 : zeroOf Try.prog 66 = some (.tuple [.agg [.bool false, .int .i64 0, .nilSlice], .agg [.bool false, .int .i64 0, .int .i64 0], .int .i64 0]) := by kernel_rfl
theorem cells_67 : Try.prog.cellsOf 67 = 1 := by kernel_rfl
theorem bytes_67 : Try.prog.bytesOf 67 = 8 := by kernel_rfl
theorem info_67 : (Try.prog.info? 67).isSome = true := by kernel_rfl
theorem agg_67 : aggB Try.prog 67 = some false := by kernel_rfl
theorem zero_67 : zeroOf Try.prog 67 = some (.nilFunc) := by kernel_rfl
theorem cells_68 : Try.prog.cellsOf 68 = 1 := by kernel_rfl
theorem bytes_68 : Try.prog.bytesOf 68 = 8 := by kernel_rfl
theorem info_68 : (Try.prog.info? 68).isSome = true := by kernel_rfl
theorem agg_68 : aggB Try.prog 68 = some false := by kernel_rfl
theorem zero_68 : zeroOf Try.prog 68 = some (.nilFunc) := by kernel_rfl
theorem cells_69 : Try.prog.cellsOf 69 = 1 := by kernel_rfl
theorem bytes_69 : Try.prog.bytesOf 69 = 8 := by kernel_rfl
theorem info_69 : (Try.prog.info? 69).isSome = true := by kernel_rfl
theorem agg_69 : aggB Try.prog 69 = some false := by kernel_rfl
theorem zero_69 : zeroOf Try.prog 69 = some (.nilFunc) := by kernel_rfl
theorem cells_70 : Try.prog.cellsOf 70 = 1 := by kernel_rfl
theorem bytes_70 : Try.prog.bytesOf 70 = 24 := by kernel_rfl
theorem info_70 : (Try.prog.info? 70).isSome = true := by kernel_rfl
theorem agg_70 : aggB Try.prog 70 = some false := by kernel_rfl
theorem zero_70 : zeroOf Try.prog 70 = some (.nilSlice) := by kernel_rfl
theorem cells_71 : Try.prog.cellsOf 71 = 1 := by kernel_rfl
theorem bytes_71 : Try.prog.bytesOf 71 = 8 := by kernel_rfl
theorem info_71 : (Try.prog.info? 71).isSome = true := by kernel_rfl
theorem agg_71 : aggB Try.prog 71 = some false := by kernel_rfl
theorem zero_71 : zeroOf Try.prog 71 = some (.nilPtr) := by kernel_rfl
theorem cells_72 : Try.prog.cellsOf 72 = 32 := by kernel_rfl
theorem bytes_72 : Try.prog.bytesOf 72 = 768 := by kernel_rfl
theorem info_72 : (Try.prog.info? 72).isSome = true := by kernel_rfl
theorem agg_72 : aggB Try.prog 72 = some true := by kernel_rfl
theorem bok_72 : buildOk Try.prog 72 = true := by kernel_rfl
theorem zero_72 : zeroOf Try.prog 72 = some (.agg [.nilSlice, .nilSlice, .nilSlice, .nilSlice, .nilSlice, .nilSlice, .nilSlice, .nilSlice, .nilSlice, .nilSlice, .nilSlice, .nilSlice, .nilSlice, .nilSlice, .nilSlice, .nilSlice, .nilSlice, .nilSlice, .nilSlice, .nilSlice, .nilSlice, .nilSlice, .nilSlice, .nilSlice, .nilSlice, .nilSlice, .nilSlice, .nilSlice, .nilSlice, .nilSlice, .nilSlice, .nilSlice]) := by kernel_rfl
theorem cells_73 : Try.prog.cellsOf 73 = 1 := by kernel_rfl
theorem bytes_73 : Try.prog.bytesOf 73 = 24 := by kernel_rfl
theorem info_73 : (Try.prog.info? 73).isSome = true := by kernel_rfl
theorem agg_73 : aggB Try.prog 73 = some false := by kernel_rfl
theorem zero_73 : zeroOf Try.prog 73 = some (.nilSlice) := by kernel_rfl
theorem cells_74 : Try.prog.cellsOf 74 = 38 := by kernel_rfl
theorem bytes_74 : Try.prog.bytesOf 74 = 912 := by kernel_rfl
theorem info_74 : (Try.prog.info? 74).isSome = true := by kernel_rfl
theorem agg_74 : aggB Try.prog 74 = some true := by kernel_rfl
theorem bok_74 : buildOk Try.prog 74 = true := by kernel_rfl
theorem zero_74 : zeroOf Try.prog 74 = some (.agg [.nilSlice, .nilSlice, .nilSlice, .nilSlice, .nilSlice, .nilSlice, .nilSlice, .nilSlice, .nilSlice, .nilSlice, .nilSlice, .nilSlice, .nilSlice, .nilSlice, .nilSlice, .nilSlice, .nilSlice, .nilSlice, .nilSlice, .nilSlice, .nilSlice, .nilSlice, .nilSlice, .nilSlice, .nilSlice, .nilSlice, .nilSlice, .nilSlice, .nilSlice, .nilSlice, .nilSlice, .nilSlice, .nilSlice, .nilSlice, .nilSlice, .nilSlice, .nilSlice, .nilSlice]) := by kernel_rfl
theorem cells_75 : Try.prog.cellsOf 75 = 38 := by kernel_rfl
theorem bytes_75 : Try.prog.bytesOf 75 = 912 := by kernel_rfl
theorem info_75 : (Try.prog.info? 75).isSome = true := by kernel_rfl
theorem agg_75 : aggB Try.prog 75 = some true := by kernel_rfl
theorem bok_75 : buildOk Try.prog 75 = true := by kernel_rfl
theorem zero_75 : zeroOf Try.prog 75 = some (.agg [.nilSlice, .nilSlice, .nilSlice, .nilSlice, .nilSlice, .nilSlice, .nilSlice, .nilSlice, .nilSlice, .nilSlice, .nilSlice, .nilSlice, .nilSlice, .nilSlice, .nilSlice, .nilSlice, .nilSlice, .nilSlice, .nilSlice, .nilSlice, .nilSlice, .nilSlice, .nilSlice, .nilSlice, .nilSlice, .nilSlice, .nilSlice, .nilSlice, .nilSlice, .nilSlice, .nilSlice, .nilSlice, .nilSlice, .nilSlice, .nilSlice, .nilSlice, .nilSlice, .nilSlice]) := by kernel_rfl
theorem cells_76 : Try.prog.cellsOf 76 = 1 := by kernel_rfl
theorem bytes_76 : Try.prog.bytesOf 76 = 8 := by kernel_rfl
theorem info_76 : (Try.prog.info? 76).isSome = true := by kernel_rfl
theorem agg_76 : aggB Try.prog 76 = some false := by kernel_rfl
theorem zero_76 : zeroOf Try.prog 76 = some (.nilFunc) := by kernel_rfl
theorem cells_77 : Try.prog.cellsOf 77 = 1 := by kernel_rfl
theorem bytes_77 : Try.prog.bytesOf 77 = 0 := by kernel_rfl
theorem info_77 : (Try.prog.info? 77).isSome = true := by kernel_rfl
theorem agg_77 : aggB Try.prog 77 = some false := by kernel_rfl
theorem zero_77 : zeroOf Try.prog 77 = some (.tuple [.agg [.bool false, .int .i64 0, .nilSlice], .int .i64 0]) := by kernel_rfl
theorem cells_78 : Try.prog.cellsOf 78 = 1 := by kernel_rfl
theorem bytes_78 : Try.prog.bytesOf 78 = 8 := by kernel_rfl
theorem info_78 : (Try.prog.info? 78).isSome = true := by kernel_rfl
theorem agg_78 : aggB Try.prog 78 = some false := by kernel_rfl
theorem zero_78 : zeroOf Try.prog 78 = some (.nilFunc) := by kernel_rfl
theorem cells_79 : Try.prog.cellsOf 79 = 1 := by kernel_rfl
theorem bytes_79 : Try.prog.bytesOf 79 = 8 := by kernel_rfl
theorem info_79 : (Try.prog.info? 79).isSome = true := by kernel_rfl
theorem agg_79 : aggB Try.prog 79 = some false := by kernel_rfl
theorem zero_79 : zeroOf Try.prog 79 = some (.nilFunc) := by kernel_rfl
theorem cells_80 : Try.prog.cellsOf 80 = 1 := by kernel_rfl
theorem bytes_80 : Try.prog.bytesOf 80 = 8 := by kernel_rfl
theorem info_80 : (Try.prog.info? 80).isSome = true := by kernel_rfl
theorem agg_80 : aggB Try.prog 80 = some false := by kernel_rfl
theorem zero_80 : zeroOf Try.prog 80 = some (.nilFunc) := by kernel_rfl
theorem cells_81 : Try.prog.cellsOf 81 = 1 := by kernel_rfl
theorem bytes_81 : Try.prog.bytesOf 81 = 8 := by kernel_rfl
theorem info_81 : (Try.prog.info? 81).isSome = true := by kernel_rfl
theorem agg_81 : aggB Try.prog 81 = some false := by kernel_rfl
theorem zero_81 : zeroOf Try.prog 81 = some (.nilFunc) := by kernel_rfl
theorem cells_82 : Try.prog.cellsOf 82 = 1 := by kernel_rfl
theorem bytes_82 : Try.prog.bytesOf 82 = 8 := by kernel_rfl
theorem info_82 : (Try.prog.info? 82).isSome = true := by kernel_rfl
theorem agg_82 : aggB Try.prog 82 = some false := by kernel_rfl
theorem zero_82 : zeroOf Try.prog 82 = some (.nilFunc) := by kernel_rfl
theorem cells_83 : Try.prog.cellsOf 83 = 1 := by kernel_rfl
theorem bytes_83 : Try.prog.bytesOf 83 = 8 := by kernel_rfl
theorem info_83 : (Try.prog.info? 83).isSome = true := by kernel_rfl
theorem agg_83 : aggB Try.prog 83 = some false := by kernel_rfl
theorem zero_83 : zeroOf Try.prog 83 = some (.nilFunc) := by kernel_rfl
theorem cells_84 : Try.prog.cellsOf 84 = 1 := by kernel_rfl
theorem bytes_84 : Try.prog.bytesOf 84 = 8 := by kernel_rfl
theorem info_84 : (Try.prog.info? 84).isSome = true := by kernel_rfl
theorem agg_84 : aggB Try.prog 84 = some false := by kernel_rfl
theorem zero_84 : zeroOf Try.prog 84 = some (.nilFunc) := by kernel_rfl
theorem cells_85 : Try.prog.cellsOf 85 = 1 := by kernel_rfl
theorem bytes_85 : Try.prog.bytesOf 85 = 8 := by kernel_rfl
theorem info_85 : (Try.prog.info? 85).isSome = true := by kernel_rfl
theorem agg_85 : aggB Try.prog 85 = some false := by kernel_rfl
theorem zero_85 : zeroOf Try.prog 85 = some (.nilFunc) := by kernel_rfl
theorem cells_86 : Try.prog.cellsOf 86 = 10 := by kernel_rfl
theorem bytes_86 : Try.prog.bytesOf 86 = 128 := by kernel_rfl
theorem info_86 : (Try.prog.info? 86).isSome = true := by kernel_rfl
theorem agg_86 : aggB Try.prog 86 = some true := by kernel_rfl
theorem bok_86 : buildOk Try.prog 86 = true := by kernel_rfl
theorem zero_86 : zeroOf Try.prog 86 = some (.agg [.bool false, .int .i64 0, .nilSlice, .int .i64 0, .int .i64 0, .int .i64 0, .int .i64 0, .int .i64 0, .nilSlice, .nilSlice]) := by kernel_rfl
theorem cells_87 : Try.prog.cellsOf 87 = 10 := by kernel_rfl
theorem bytes_87 : Try.prog.bytesOf 87 = 128 := by kernel_rfl
theorem info_87 : (Try.prog.info? 87).isSome = true := by kernel_rfl
theorem agg_87 : aggB Try.prog 87 = some true := by kernel_rfl
theorem bok_87 : buildOk Try.prog 87 = true := by kernel_rfl
theorem zero_87 : zeroOf Try.prog 87 = some (.agg [.bool false, .int .i64 0, .nilSlice, .int .i64 0, .int .i64 0, .int .i64 0, .int .i64 0, .int .i64 0, .nilSlice, .nilSlice]) := by kernel_rfl
theorem cells_88 : Try.prog.cellsOf 88 = 1 := by kernel_rfl
theorem bytes_88 : Try.prog.bytesOf 88 = 8 := by kernel_rfl
theorem info_88 : (Try.prog.info? 88).isSome = true := by kernel_rfl
theorem agg_88 : aggB Try.prog 88 = some false := by kernel_rfl
theorem zero_88 : zeroOf Try.prog 88 = some (.nilFunc) := by kernel_rfl
theorem cells_89 : Try.prog.cellsOf 89 = 1 := by kernel_rfl
theorem bytes_89 : Try.prog.bytesOf 89 = 0 := by kernel_rfl
theorem info_89 : (Try.prog.info? 89).isSome = true := by kernel_rfl
theorem agg_89 : aggB Try.prog 89 = some false := by kernel_rfl
theorem zero_89 : zeroOf Try.prog 89 = some (.tuple [.agg [.bool false, .int .i64 0, .nilSlice], .int .i64 0]) := by kernel_rfl
theorem cells_90 : Try.prog.cellsOf 90 = 1 := by kernel_rfl
theorem bytes_90 : Try.prog.bytesOf 90 = 8 := by kernel_rfl
theorem info_90 : (Try.prog.info? 90).isSome = true := by kernel_rfl
theorem agg_90 : aggB Try.prog 90 = some false := by kernel_rfl
theorem zero_90 : zeroOf Try.prog 90 = some (.nilFunc) := by kernel_rfl
theorem cells_91 : Try.prog.cellsOf 91 = 1 := by kernel_rfl
theorem bytes_91 : Try.prog.bytesOf 91 = 0 := by kernel_rfl
theorem info_91 : (Try.prog.info? 91).isSome = true := by kernel_rfl
theorem agg_91 : aggB Try.prog 91 = some false := by kernel_rfl
theorem zero_91 : zeroOf Try.prog 91 = some (.tuple [.agg [.bool false, .int .i64 0, .nilSlice], .agg [.bool false, .int .i64 0, .int .i64 0], .int .i64 0]) := by kernel_rfl
theorem cells_92 : Try.prog.cellsOf 92 = 1 := by kernel_rfl
theorem bytes_92 : Try.prog.bytesOf 92 = 8 := by kernel_rfl
theorem info_92 : (Try.prog.info? 92).isSome = true := by kernel_rfl
theorem agg_92 : aggB Try.prog 92 = some false := by kernel_rfl
theorem zero_92 : zeroOf Try.prog 92 = some (.nilFunc) := by kernel_rfl
theorem cells_93 : Try.prog.cellsOf 93 = 1 := by kernel_rfl
theorem bytes_93 : Try.prog.bytesOf 93 = 8 := by kernel_rfl
theorem info_93 : (Try.prog.info? 93).isSome = true := by kernel_rfl
theorem agg_93 : aggB Try.prog 93 = some false := by kernel_rfl
theorem zero_93 : zeroOf Try.prog 93 = some (.nilFunc) := by kernel_rfl
theorem cells_94 : Try.prog.cellsOf 94 = 1 := by kernel_rfl
theorem bytes_94 : Try.prog.bytesOf 94 = 8 := by kernel_rfl
theorem info_94 : (Try.prog.info? 94).isSome = true := by kernel_rfl
theorem agg_94 : aggB Try.prog 94 = some false := by kernel_rfl
theorem zero_94 : zeroOf Try.prog 94 = some (.nilFunc) := by kernel_rfl
theorem cells_95 : Try.prog.cellsOf 95 = 1 := by kernel_rfl
theorem bytes_95 : Try.prog.bytesOf 95 = 8 := by kernel_rfl
theorem info_95 : (Try.prog.info? 95).isSome = true := by kernel_rfl
theorem agg_95 : aggB Try.prog 95 = some false := by kernel_rfl
theorem zero_95 : zeroOf Try.prog 95 = some (.nilFunc) := by kernel_rfl
theorem cells_96 : Try.prog.cellsOf 96 = 1 := by kernel_rfl
theorem bytes_96 : Try.prog.bytesOf 96 = 8 := by kernel_rfl
theorem info_96 : (Try.prog.info? 96).isSome = true := by kernel_rfl
theorem agg_96 : aggB Try.prog 96 = some false := by kernel_rfl
theorem zero_96 : zeroOf Try.prog 96 = some (.nilFunc) := by kernel_rfl
theorem cells_97 : Try.prog.cellsOf 97 = 1 := by kernel_rfl
theorem bytes_97 : Try.prog.bytesOf 97 = 8 := by kernel_rfl
theorem info_97 : (Try.prog.info? 97).isSome = true := by kernel_rfl
theorem agg_97 : aggB Try.prog 97 = some false := by kernel_rfl
theorem zero_97 : zeroOf Try.prog 97 = some (.nilFunc) := by kernel_rfl
theorem cells_98 : Try.prog.cellsOf 98 = 1 := by kernel_rfl
theorem bytes_98 : Try.prog.bytesOf 98 = 8 := by kernel_rfl
theorem info_98 : (Try.prog.info? 98).isSome = true := by kernel_rfl
theorem agg_98 : aggB Try.prog 98 = some false := by kernel_rfl
theorem zero_98 : zeroOf Try.prog 98 = some (.nilFunc) := by kernel_rfl
theorem cells_99 : Try.prog.cellsOf 99 = 1 := by kernel_rfl
theorem bytes_99 : Try.prog.bytesOf 99 = 8 := by kernel_rfl
theorem info_99 : (Try.prog.info? 99).isSome = true := by kernel_rfl
theorem agg_99 : aggB Try.prog 99 = some false := by kernel_rfl
theorem zero_99 : zeroOf Try.prog 99 = some (.nilFunc) := by kernel_rfl
theorem cells_100 : Try.prog.cellsOf 100 = 1 := by kernel_rfl
theorem bytes_100 : Try.prog.bytesOf 100 = 8 := by kernel_rfl
theorem info_100 : (Try.prog.info? 100).isSome = true := by kernel_rfl
theorem agg_100 : aggB Try.prog 100 = some false := by kernel_rfl
theorem zero_100 : zeroOf Try.prog 100 = some (.nilFunc) := by kernel_rfl
theorem cells_101 : Try.prog.cellsOf 101 = 1 := by kernel_rfl
theorem bytes_101 : Try.prog.bytesOf 101 = 8 := by kernel_rfl
theorem info_101 : (Try.prog.info? 101).isSome = true := by kernel_rfl
theorem agg_101 : aggB Try.prog 101 = some false := by kernel_rfl
theorem zero_101 : zeroOf Try.prog 101 = some (.nilFunc) := by kernel_rfl
theorem cells_102 : Try.prog.cellsOf 102 = 1 := by kernel_rfl
theorem bytes_102 : Try.prog.bytesOf 102 = 0 := by kernel_rfl
theorem info_102 : (Try.prog.info? 102).isSome = true := by kernel_rfl
theorem agg_102 : aggB Try.prog 102 = some false := by kernel_rfl
theorem zero_102 : zeroOf Try.prog 102 = some (.tuple [.int .i64 0, .int .i64 0, .int .i64 0]) := by kernel_rfl
theorem cells_103 : Try.prog.cellsOf 103 = 1 := by kernel_rfl
theorem bytes_103 : Try.prog.bytesOf 103 = 8 := by kernel_rfl
theorem info_103 : (Try.prog.info? 103).isSome = true := by kernel_rfl
theorem agg_103 : aggB Try.prog 103 = some false := by kernel_rfl
theorem zero_103 : zeroOf Try.prog 103 = some (.nilFunc) := by kernel_rfl
theorem cells_104 : Try.prog.cellsOf 104 = 1 := by kernel_rfl
theorem bytes_104 : Try.prog.bytesOf 104 = 8 := by kernel_rfl
theorem info_104 : (Try.prog.info? 104).isSome = true := by kernel_rfl
theorem agg_104 : aggB Try.prog 104 = some false := by kernel_rfl
theorem zero_104 : zeroOf Try.prog 104 = some (.nilFunc) := by kernel_rfl
theorem cells_105 : Try.prog.cellsOf 105 = 1 := by kernel_rfl
theorem bytes_105 : Try.prog.bytesOf 105 = 8 := by kernel_rfl
theorem info_105 : (Try.prog.info? 105).isSome = true := by kernel_rfl
theorem agg_105 : aggB Try.prog 105 = some false := by kernel_rfl
theorem zero_105 : zeroOf Try.prog 105 = some (.nilFunc) := by kernel_rfl
theorem cells_106 : Try.prog.cellsOf 106 = 1 := by kernel_rfl
theorem bytes_106 : Try.prog.bytesOf 106 = 8 := by kernel_rfl
theorem info_106 : (Try.prog.info? 106).isSome = true := by kernel_rfl
theorem agg_106 : aggB Try.prog 106 = some false := by kernel_rfl
theorem zero_106 : zeroOf Try.prog 106 = some (.nilFunc) := by kernel_rfl
theorem cells_107 : Try.prog.cellsOf 107 = 1 := by kernel_rfl
theorem bytes_107 : Try.prog.bytesOf 107 = 8 := by kernel_rfl
theorem info_107 : (Try.prog.info? 107).isSome = true := by kernel_rfl
theorem agg_107 : aggB Try.prog 107 = some false := by kernel_rfl
theorem zero_107 : zeroOf Try.prog 107 = some (.nilFunc) := by kernel_rfl
theorem cells_108 : Try.prog.cellsOf 108 = 1 := by kernel_rfl
theorem bytes_108 : Try.prog.bytesOf 108 = 8 := by kernel_rfl
theorem info_108 : (Try.prog.info? 108).isSome = true := by kernel_rfl
theorem agg_108 : aggB Try.prog 108 = some false := by kernel_rfl
theorem zero_108 : zeroOf Try.prog 108 = some (.nilFunc) := by kernel_rfl
theorem cells_109 : Try.prog.cellsOf 109 = 1 := by kernel_rfl
theorem bytes_109 : Try.prog.bytesOf 109 = 8 := by kernel_rfl
theorem info_109 : (Try.prog.info? 109).isSome = true := by kernel_rfl
theorem agg_109 : aggB Try.prog 109 = some false := by kernel_rfl
theorem zero_109 : zeroOf Try.prog 109 = some (.nilFunc) := by kernel_rfl
theorem cells_110 : Try.prog.cellsOf 110 = 32 := by kernel_rfl
theorem bytes_110 : Try.prog.bytesOf 110 = 32 := by kernel_rfl
theorem info_110 : (Try.prog.info? 110).isSome = true := by kernel_rfl
theorem agg_110 : aggB Try.prog 110 = some true := by kernel_rfl
theorem bok_110 : buildOk Try.prog 110 = true := by kernel_rfl
theorem zero_110 : zeroOf Try.prog 110 = some (.agg [.bool false, .bool false, .bool false, .bool false, .bool false, .bool false, .bool false, .bool false, .bool false, .bool false, .bool false, .bool false, .bool false, .bool false, .bool false, .bool false, .bool false, .bool false, .bool false, .bool false, .bool false, .bool false, .bool false, .bool false, .bool false, .bool false, .bool false, .bool false, .bool false, .bool false, .bool false, .bool false]) := by kernel_rfl
theorem cells_111 : Try.prog.cellsOf 111 = 1 := by kernel_rfl
theorem bytes_111 : Try.prog.bytesOf 111 = 8 := by kernel_rfl
theorem info_111 : (Try.prog.info? 111).isSome = true := by kernel_rfl
theorem agg_111 : aggB Try.prog 111 = some false := by kernel_rfl
theorem zero_111 : zeroOf Try.prog 111 = some (.nilFunc) := by kernel_rfl
theorem cells_112 : Try.prog.cellsOf 112 = 1 := by kernel_rfl
theorem bytes_112 : Try.prog.bytesOf 112 = 8 := by kernel_rfl
theorem info_112 : (Try.prog.info? 112).isSome = true := by kernel_rfl
theorem agg_112 : aggB Try.prog 112 = some false := by kernel_rfl
theorem zero_112 : zeroOf Try.prog 112 = some (.nilPtr) := by kernel_rfl
theorem cells_113 : Try.prog.cellsOf 113 = 1 := by kernel_rfl
theorem bytes_113 : Try.prog.bytesOf 113 = 0 := by kernel_rfl
theorem info_113 : (Try.prog.info? 113).isSome = true := by kernel_rfl
theorem agg_113 : aggB Try.prog 113 = some false := by kernel_rfl
theorem zero_113 : zeroOf Try.prog 113 = some (.tuple [.nilPtr, .bool false]) := by kernel_rfl
theorem cells_114 : Try.prog.cellsOf 114 = 1 := by kernel_rfl
theorem bytes_114 : Try.prog.bytesOf 114 = 8 := by kernel_rfl
theorem info_114 : (Try.prog.info? 114).isSome = true := by kernel_rfl
theorem agg_114 : aggB Try.prog 114 = some false := by kernel_rfl
theorem zero_114 : zeroOf Try.prog 114 = some (.nilFunc) := by kernel_rfl
theorem cells_115 : Try.prog.cellsOf 115 = 3 := by kernel_rfl
theorem bytes_115 : Try.prog.bytesOf 115 = 40 := by kernel_rfl
theorem info_115 : (Try.prog.info? 115).isSome = true := by kernel_rfl
theorem agg_115 : aggB Try.prog 115 = some true := by kernel_rfl
theorem bok_115 : buildOk Try.prog 115 = true := by kernel_rfl
theorem zero_115 : zeroOf Try.prog 115 = some (.agg [.bool false, .int .i64 0, .nilSlice]) := by kernel_rfl
theorem cells_116 : Try.prog.cellsOf 116 = 3 := by kernel_rfl
theorem bytes_116 : Try.prog.bytesOf 116 = 40 := by kernel_rfl
theorem info_116 : (Try.prog.info? 116).isSome = true := by kernel_rfl
theorem agg_116 : aggB Try.prog 116 = some true := by kernel_rfl
theorem bok_116 : buildOk Try.prog 116 = true := by kernel_rfl
theorem zero_116 : zeroOf Try.prog 116 = some (.agg [.bool false, .int .i64 0, .nilSlice]) := by kernel_rfl
theorem cells_117 : Try.prog.cellsOf 117 = 1 := by kernel_rfl
theorem bytes_117 : Try.prog.bytesOf 117 = 8 := by kernel_rfl
theorem info_117 : (Try.prog.info? 117).isSome = true := by kernel_rfl
theorem agg_117 : aggB Try.prog 117 = some false := by kernel_rfl
theorem zero_117 : zeroOf Try.prog 117 = some (.nilFunc) := by kernel_rfl
theorem cells_118 : Try.prog.cellsOf 118 = 1 := by kernel_rfl
theorem bytes_118 : Try.prog.bytesOf 118 = 8 := by kernel_rfl
theorem info_118 : (Try.prog.info? 118).isSome = true := by kernel_rfl
theorem agg_118 : aggB Try.prog 118 = some false := by kernel_rfl
theorem zero_118 : zeroOf Try.prog 118 = some (.nilFunc) := by kernel_rfl
theorem cells_119 : Try.prog.cellsOf 119 = 1 := by kernel_rfl
theorem bytes_119 : Try.prog.bytesOf 119 = 8 := by kernel_rfl
theorem info_119 : (Try.prog.info? 119).isSome = true := by kernel_rfl
theorem agg_119 : aggB Try.prog 119 = some false := by kernel_rfl
theorem zero_119 : zeroOf Try.prog 119 = some (.nilFunc) := by kernel_rfl
theorem cells_120 : Try.prog.cellsOf 120 = 1 := by kernel_rfl
theorem bytes_120 : Try.prog.bytesOf 120 = 8 := by kernel_rfl
theorem info_120 : (Try.prog.info? 120).isSome = true := by kernel_rfl
theorem agg_120 : aggB Try.prog 120 = some false := by kernel_rfl
theorem zero_120 : zeroOf Try.prog 120 = some (.nilFunc) := by kernel_rfl
theorem cells_121 : Try.prog.cellsOf 121 = 1 := by kernel_rfl
theorem bytes_121 : Try.prog.bytesOf 121 = 8 := by kernel_rfl
theorem info_121 : (Try.prog.info? 121).isSome = true := by kernel_rfl
theorem agg_121 : aggB Try.prog 121 = some false := by kernel_rfl
theorem zero_121 : zeroOf Try.prog 121 = some (.nilFunc) := by kernel_rfl
theorem cells_122 : Try.prog.cellsOf 122 = 1 := by kernel_rfl
theorem bytes_122 : Try.prog.bytesOf 122 = 8 := by kernel_rfl
theorem info_122 : (Try.prog.info? 122).isSome = true := by kernel_rfl
theorem agg_122 : aggB Try.prog 122 = some false := by kernel_rfl
theorem zero_122 : zeroOf Try.prog 122 = some (.nilFunc) := by kernel_rfl
theorem cells_123 : Try.prog.cellsOf 123 = 1 := by kernel_rfl
theorem bytes_123 : Try.prog.bytesOf 123 = 8 := by kernel_rfl
theorem info_123 : (Try.prog.info? 123).isSome = true := by kernel_rfl
theorem agg_123 : aggB Try.prog 123 = some false := by kernel_rfl
theorem zero_123 : zeroOf Try.prog 123 = some (.nilFunc) := by kernel_rfl
theorem cells_124 : Try.prog.cellsOf 124 = 4 := by kernel_rfl
theorem bytes_124 : Try.prog.bytesOf 124 = 40 := by kernel_rfl
theorem info_124 : (Try.prog.info? 124).isSome = true := by kernel_rfl
theorem agg_124 : aggB Try.prog 124 = some true := by kernel_rfl
theorem bok_124 : buildOk Try.prog 124 = true := by kernel_rfl
theorem zero_124 : zeroOf Try.prog 124 = some (.agg [.nilPtr, .nilPtr, .nilPtr, .str []]) := by kernel_rfl
theorem cells_125 : Try.prog.cellsOf 125 = 4 := by kernel_rfl
theorem bytes_125 : Try.prog.bytesOf 125 = 40 := by kernel_rfl
theorem info_125 : (Try.prog.info? 125).isSome = true := by kernel_rfl
theorem agg_125 : aggB Try.prog 125 = some true := by kernel_rfl
theorem bok_125 : buildOk Try.prog 125 = true := by kernel_rfl
theorem zero_125 : zeroOf Try.prog 125 = some (.agg [.nilPtr, .nilPtr, .nilPtr, .str []]) := by kernel_rfl
theorem cells_126 : Try.prog.cellsOf 126 = 0 := by kernel_rfl
theorem bytes_126 : Try.prog.bytesOf 126 = 0 := by kernel_rfl
theorem info_126 : (Try.prog.info? 126).isSome = true := by kernel_rfl
theorem agg_126 : aggB Try.prog 126 = some true := by kernel_rfl
theorem bok_126 : buildOk Try.prog 126 = true := by kernel_rfl
theorem zero_126 : zeroOf Try.prog 126 = some (.agg []) := by kernel_rfl
theorem cells_127 : Try.prog.cellsOf 127 = 0 := by kernel_rfl
theorem bytes_127 : Try.prog.bytesOf 127 = 0 := by kernel_rfl
theorem info_127 : (Try.prog.info? 127).isSome = true := by kernel_rfl
theorem agg_127 : aggB Try.prog 127 = some true := by kernel_rfl
theorem bok_127 : buildOk Try.prog 127 = true := by kernel_rfl
theorem zero_127 : zeroOf Try.prog 127 = some (.agg []) := by kernel_rfl
theorem cells_128 : Try.prog.cellsOf 128 = 0 := by kernel_rfl
theorem bytes_128 : Try.prog.bytesOf 128 = 0 := by kernel_rfl
theorem info_128 : (Try.prog.info? 128).isSome = true := by kernel_rfl
theorem agg_128 : aggB Try.prog 128 = some true := by kernel_rfl
theorem bok_128 : buildOk Try.prog 128 = true := by kernel_rfl
theorem zero_128 : zeroOf Try.prog 128 = some (.agg []) := by kernel_rfl
theorem cells_129 : Try.prog.cellsOf 129 = 1 := by kernel_rfl
theorem bytes_129 : Try.prog.bytesOf 129 = 4 := by kernel_rfl
theorem info_129 : (Try.prog.info? 129).isSome = true := by kernel_rfl
theorem agg_129 : aggB Try.prog 129 = some false := by kernel_rfl
theorem zero_129 : zeroOf Try.prog 129 = some (.int .u32 0) := by kernel_rfl
theorem cells_130 : Try.prog.cellsOf 130 = 1 := by kernel_rfl
theorem bytes_130 : Try.prog.bytesOf 130 = 1 := by kernel_rfl
theorem info_130 : (Try.prog.info? 130).isSome = true := by kernel_rfl
theorem agg_130 : aggB Try.prog 130 = some false := by kernel_rfl
theorem zero_130 : zeroOf Try.prog 130 = some (.int .u8 0) := by kernel_rfl
theorem cells_131 : Try.prog.cellsOf 131 = 1 := by kernel_rfl
theorem bytes_131 : Try.prog.bytesOf 131 = 1 := by kernel_rfl
theorem info_131 : (Try.prog.info? 131).isSome = true := by kernel_rfl
theorem agg_131 : aggB Try.prog 131 = some false := by kernel_rfl
theorem zero_131 : zeroOf Try.prog 131 = some (.int .u8 0) := by kernel_rfl
theorem cells_132 : Try.prog.cellsOf 132 = 1 := by kernel_rfl
theorem bytes_132 : Try.prog.bytesOf 132 = 8 := by kernel_rfl
theorem info_132 : (Try.prog.info? 132).isSome = true := by kernel_rfl
theorem agg_132 : aggB Try.prog 132 = some false := by kernel_rfl
theorem zero_132 : zeroOf Try.prog 132 = some (.nilFunc) := by kernel_rfl
theorem cells_133 : Try.prog.cellsOf 133 = 1 := by kernel_rfl
theorem bytes_133 : Try.prog.bytesOf 133 = 8 := by kernel_rfl
theorem info_133 : (Try.prog.info? 133).isSome = true := by kernel_rfl
theorem agg_133 : aggB Try.prog 133 = some false := by kernel_rfl
theorem zero_133 : zeroOf Try.prog 133 = some (.nilPtr) := by kernel_rfl
theorem cells_134 : Try.prog.cellsOf 134 = 1 := by kernel_rfl
theorem bytes_134 : Try.prog.bytesOf 134 = 4 := by kernel_rfl
theorem info_134 : (Try.prog.info? 134).isSome = true := by kernel_rfl
theorem agg_134 : aggB Try.prog 134 = some false := by kernel_rfl
theorem zero_134 : zeroOf Try.prog 134 = some (.int .i32 0) := by kernel_rfl
theorem cells_135 : Try.prog.cellsOf 135 = 1 := by kernel_rfl
theorem bytes_135 : Try.prog.bytesOf 135 = 4 := by kernel_rfl
theorem info_135 : (Try.prog.info? 135).isSome = true := by kernel_rfl
theorem agg_135 : aggB Try.prog 135 = some false := by kernel_rfl
theorem zero_135 : zeroOf Try.prog 135 = some (.int .i32 0) := by kernel_rfl
theorem cells_136 : Try.prog.cellsOf 136 = 11 := by kernel_rfl
theorem bytes_136 : Try.prog.bytesOf 136 = 48 := by kernel_rfl
theorem info_136 : (Try.prog.info? 136).isSome = true := by kernel_rfl
theorem agg_136 : aggB Try.prog 136 = some true := by kernel_rfl
theorem bok_136 : buildOk Try.prog 136 = true := by kernel_rfl
theorem zero_136 : zeroOf Try.prog 136 = some (.agg [.int .u64 0, .int .u64 0, .int .u32 0, .int .u8 0, .int .u8 0, .int .u8 0, .int .u8 0, .nilFunc, .nilPtr, .int .i32 0, .int .i32 0]) := by kernel_rfl
theorem cells_137 : Try.prog.cellsOf 137 = 11 := by kernel_rfl
theorem bytes_137 : Try.prog.bytesOf 137 = 48 := by kernel_rfl
theorem info_137 : (Try.prog.info? 137).isSome = true := by kernel_rfl
theorem agg_137 : aggB Try.prog 137 = some true := by kernel_rfl
theorem bok_137 : buildOk Try.prog 137 = true := by kernel_rfl
theorem zero_137 : zeroOf Try.prog 137 = some (.agg [.int .u64 0, .int .u64 0, .int .u32 0, .int .u8 0, .int .u8 0, .int .u8 0, .int .u8 0, .nilFunc, .nilPtr, .int .i32 0, .int .i32 0]) := by kernel_rfl
theorem cells_138 : Try.prog.cellsOf 138 = 1 := by kernel_rfl
theorem bytes_138 : Try.prog.bytesOf 138 = 8 := by kernel_rfl
theorem info_138 : (Try.prog.info? 138).isSome = true := by kernel_rfl
theorem agg_138 : aggB Try.prog 138 = some false := by kernel_rfl
theorem zero_138 : zeroOf Try.prog 138 = some (.nilPtr) := by kernel_rfl
attribute [go_sem] cells_0 bytes_0 info_0 agg_0 zero_0 Try.underlying0 cells_1 bytes_1 info_1 agg_1 zero_1 Try.underlying1
attribute [go_sem] cells_2 bytes_2 info_2 agg_2 zero_2 Try.underlying2 cells_3 bytes_3 info_3 agg_3 zero_3 Try.underlying3
attribute [go_sem] cells_4 bytes_4 info_4 agg_4 zero_4 Try.underlying4 cells_5 bytes_5 info_5 agg_5 zero_5 Try.underlying5
attribute [go_sem] cells_6 bytes_6 info_6 agg_6 zero_6 Try.underlying6 cells_7 bytes_7 info_7 agg_7 bok_7 Try.eqGuardType7
attribute [go_sem] Try.stoodInHeld7 zero_7 Try.underlying7 cells_8 bytes_8 info_8 agg_8 bok_8 Try.eqGuardType8 Try.stoodInHeld8 zero_8 Try.underlying8
attribute [go_sem] cells_9 bytes_9 info_9 agg_9 zero_9 Try.underlying9 cells_10 bytes_10 info_10 agg_10 zero_10 Try.underlying10
attribute [go_sem] cells_11 bytes_11 info_11 agg_11 zero_11 Try.underlying11 cells_12 bytes_12 info_12 agg_12 zero_12 Try.underlying12
attribute [go_sem] cells_13 bytes_13 info_13 agg_13 bok_13 Try.eqGuardType13 Try.stoodInHeld13 zero_13 Try.underlying13 cells_14 bytes_14 info_14
attribute [go_sem] agg_14 bok_14 Try.eqGuardType14 Try.stoodInHeld14 zero_14 Try.underlying14 cells_15 bytes_15 info_15 agg_15 zero_15 Try.underlying15
attribute [go_sem] cells_16 bytes_16 info_16 agg_16 zero_16 Try.underlying16 cells_17 bytes_17 info_17 agg_17 zero_17 Try.underlying17
attribute [go_sem] cells_18 bytes_18 info_18 agg_18 bok_18 Try.eqGuardType18 Try.stoodInHeld18 zero_18 Try.underlying18 cells_19 bytes_19 info_19
attribute [go_sem] agg_19 bok_19 Try.eqGuardType19 Try.stoodInHeld19 zero_19 Try.underlying19 cells_20 bytes_20 info_20 agg_20 zero_20 Try.underlying20
attribute [go_sem] cells_21 bytes_21 info_21 agg_21 zero_21 Try.underlying21 cells_22 bytes_22 info_22 agg_22 zero_22 Try.underlying22
attribute [go_sem] cells_23 bytes_23 info_23 agg_23 zero_23 Try.underlying23 cells_24 bytes_24 info_24 agg_24 zero_24 Try.underlying24
attribute [go_sem] cells_25 bytes_25 info_25 agg_25 zero_25 Try.underlying25 cells_26 bytes_26 info_26 agg_26 zero_26 Try.underlying26
attribute [go_sem] cells_27 bytes_27 info_27 agg_27 zero_27 Try.underlying27 cells_28 bytes_28 info_28 agg_28 zero_28 Try.underlying28
attribute [go_sem] cells_29 bytes_29 info_29 agg_29 zero_29 Try.underlying29 cells_30 bytes_30 info_30 agg_30 zero_30 Try.underlying30
attribute [go_sem] cells_31 bytes_31 info_31 agg_31 zero_31 Try.underlying31 cells_32 bytes_32 info_32 agg_32 zero_32 Try.underlying32
attribute [go_sem] cells_33 bytes_33 info_33 agg_33 zero_33 Try.underlying33 cells_34 bytes_34 info_34 agg_34 zero_34 Try.underlying34
attribute [go_sem] cells_35 bytes_35 info_35 agg_35 zero_35 Try.underlying35 cells_36 bytes_36 info_36 agg_36 zero_36 Try.underlying36
attribute [go_sem] cells_37 bytes_37 info_37 agg_37 zero_37 Try.underlying37 cells_38 bytes_38 info_38 agg_38 zero_38 Try.underlying38
attribute [go_sem] cells_39 bytes_39 info_39 agg_39 zero_39 Try.underlying39 cells_40 bytes_40 info_40 agg_40 zero_40 Try.underlying40
attribute [go_sem] cells_41 bytes_41 info_41 agg_41 zero_41 Try.underlying41 cells_42 bytes_42 info_42 agg_42 zero_42 Try.underlying42
attribute [go_sem] cells_43 bytes_43 info_43 agg_43 zero_43 Try.underlying43 cells_44 bytes_44 info_44 agg_44 zero_44 Try.underlying44
attribute [go_sem] cells_45 bytes_45 info_45 agg_45 zero_45 Try.underlying45 cells_46 bytes_46 info_46 agg_46 zero_46 Try.underlying46
attribute [go_sem] cells_47 bytes_47 info_47 agg_47 zero_47 Try.underlying47 cells_48 bytes_48 info_48 agg_48 zero_48 Try.underlying48
attribute [go_sem] cells_49 bytes_49 info_49 agg_49 zero_49 Try.underlying49 cells_50 bytes_50 info_50 agg_50 zero_50 Try.underlying50
attribute [go_sem] cells_51 bytes_51 info_51 agg_51 zero_51 Try.underlying51 cells_52 bytes_52 info_52 agg_52 zero_52 Try.underlying52
attribute [go_sem] cells_53 bytes_53 info_53 agg_53 zero_53 Try.underlying53 cells_54 bytes_54 info_54 agg_54 zero_54 Try.underlying54
attribute [go_sem] cells_55 bytes_55 info_55 agg_55 zero_55 Try.underlying55 cells_56 bytes_56 info_56 agg_56 zero_56 Try.underlying56
attribute [go_sem] cells_57 bytes_57 info_57 agg_57 zero_57 Try.underlying57 cells_58 bytes_58 info_58 agg_58 zero_58 Try.underlying58
attribute [go_sem] cells_59 bytes_59 info_59 agg_59 zero_59 Try.underlying59 cells_60 bytes_60 info_60 agg_60 bok_60 Try.eqGuardType60
attribute [go_sem] Try.stoodInHeld60 zero_60 Try.underlying60 cells_61 bytes_61 info_61 agg_61 bok_61 Try.eqGuardType61 Try.stoodInHeld61 zero_61 Try.underlying61
attribute [go_sem] cells_62 bytes_62 info_62 agg_62 zero_62 Try.underlying62 cells_63 bytes_63 info_63 agg_63 zero_63 Try.underlying63
attribute [go_sem] cells_64 bytes_64 info_64 agg_64 bok_64 Try.eqGuardType64 Try.stoodInHeld64 zero_64 Try.underlying64 cells_65 bytes_65 info_65
attribute [go_sem] agg_65 bok_65 Try.eqGuardType65 Try.stoodInHeld65 zero_65 Try.underlying65 cells_66 bytes_66 info_66 agg_66 zero_66 Try.underlying66
attribute [go_sem] cells_67 bytes_67 info_67 agg_67 zero_67 Try.underlying67 cells_68 bytes_68 info_68 agg_68 zero_68 Try.underlying68
attribute [go_sem] cells_69 bytes_69 info_69 agg_69 zero_69 Try.underlying69 cells_70 bytes_70 info_70 agg_70 zero_70 Try.underlying70
attribute [go_sem] cells_71 bytes_71 info_71 agg_71 zero_71 Try.underlying71 cells_72 bytes_72 info_72 agg_72 bok_72 Try.eqGuardType72
attribute [go_sem] zero_72 Try.underlying72 cells_73 bytes_73 info_73 agg_73 zero_73 Try.underlying73 cells_74 bytes_74 info_74 agg_74
attribute [go_sem] bok_74 Try.eqGuardType74 Try.stoodInHeld74 zero_74 Try.underlying74 cells_75 bytes_75 info_75 agg_75 bok_75 Try.eqGuardType75 Try.stoodInHeld75
attribute [go_sem] zero_75 Try.underlying75 cells_76 bytes_76 info_76 agg_76 zero_76 Try.underlying76 cells_77 bytes_77 info_77 agg_77
attribute [go_sem] zero_77 Try.underlying77 cells_78 bytes_78 info_78 agg_78 zero_78 Try.underlying78 cells_79 bytes_79 info_79 agg_79
attribute [go_sem] zero_79 Try.underlying79 cells_80 bytes_80 info_80 agg_80 zero_80 Try.underlying80 cells_81 bytes_81 info_81 agg_81
attribute [go_sem] zero_81 Try.underlying81 cells_82 bytes_82 info_82 agg_82 zero_82 Try.underlying82 cells_83 bytes_83 info_83 agg_83
attribute [go_sem] zero_83 Try.underlying83 cells_84 bytes_84 info_84 agg_84 zero_84 Try.underlying84 cells_85 bytes_85 info_85 agg_85
attribute [go_sem] zero_85 Try.underlying85 cells_86 bytes_86 info_86 agg_86 bok_86 Try.eqGuardType86 Try.stoodInHeld86 zero_86 Try.underlying86 cells_87
attribute [go_sem] bytes_87 info_87 agg_87 bok_87 Try.eqGuardType87 Try.stoodInHeld87 zero_87 Try.underlying87 cells_88 bytes_88 info_88 agg_88
attribute [go_sem] zero_88 Try.underlying88 cells_89 bytes_89 info_89 agg_89 zero_89 Try.underlying89 cells_90 bytes_90 info_90 agg_90
attribute [go_sem] zero_90 Try.underlying90 cells_91 bytes_91 info_91 agg_91 zero_91 Try.underlying91 cells_92 bytes_92 info_92 agg_92
attribute [go_sem] zero_92 Try.underlying92 cells_93 bytes_93 info_93 agg_93 zero_93 Try.underlying93 cells_94 bytes_94 info_94 agg_94
attribute [go_sem] zero_94 Try.underlying94 cells_95 bytes_95 info_95 agg_95 zero_95 Try.underlying95 cells_96 bytes_96 info_96 agg_96
attribute [go_sem] zero_96 Try.underlying96 cells_97 bytes_97 info_97 agg_97 zero_97 Try.underlying97 cells_98 bytes_98 info_98 agg_98
attribute [go_sem] zero_98 Try.underlying98 cells_99 bytes_99 info_99 agg_99 zero_99 Try.underlying99 cells_100 bytes_100 info_100 agg_100
attribute [go_sem] zero_100 Try.underlying100 cells_101 bytes_101 info_101 agg_101 zero_101 Try.underlying101 cells_102 bytes_102 info_102 agg_102
attribute [go_sem] zero_102 Try.underlying102 cells_103 bytes_103 info_103 agg_103 zero_103 Try.underlying103 cells_104 bytes_104 info_104 agg_104
attribute [go_sem] zero_104 Try.underlying104 cells_105 bytes_105 info_105 agg_105 zero_105 Try.underlying105 cells_106 bytes_106 info_106 agg_106
attribute [go_sem] zero_106 Try.underlying106 cells_107 bytes_107 info_107 agg_107 zero_107 Try.underlying107 cells_108 bytes_108 info_108 agg_108
attribute [go_sem] zero_108 Try.underlying108 cells_109 bytes_109 info_109 agg_109 zero_109 Try.underlying109 cells_110 bytes_110 info_110 agg_110
attribute [go_sem] bok_110 Try.eqGuardType110 zero_110 Try.underlying110 cells_111 bytes_111 info_111 agg_111 zero_111 Try.underlying111 cells_112 bytes_112
attribute [go_sem] info_112 agg_112 zero_112 Try.underlying112 cells_113 bytes_113 info_113 agg_113 zero_113 Try.underlying113 cells_114 bytes_114
attribute [go_sem] info_114 agg_114 zero_114 Try.underlying114 cells_115 bytes_115 info_115 agg_115 bok_115 Try.eqGuardType115 Try.stoodInHeld115 zero_115
attribute [go_sem] Try.underlying115 cells_116 bytes_116 info_116 agg_116 bok_116 Try.eqGuardType116 Try.stoodInHeld116 zero_116 Try.underlying116 cells_117 bytes_117
attribute [go_sem] info_117 agg_117 zero_117 Try.underlying117 cells_118 bytes_118 info_118 agg_118 zero_118 Try.underlying118 cells_119 bytes_119
attribute [go_sem] info_119 agg_119 zero_119 Try.underlying119 cells_120 bytes_120 info_120 agg_120 zero_120 Try.underlying120 cells_121 bytes_121
attribute [go_sem] info_121 agg_121 zero_121 Try.underlying121 cells_122 bytes_122 info_122 agg_122 zero_122 Try.underlying122 cells_123 bytes_123
attribute [go_sem] info_123 agg_123 zero_123 Try.underlying123 cells_124 bytes_124 info_124 agg_124 bok_124 Try.eqGuardType124 Try.stoodInHeld124 zero_124
attribute [go_sem] Try.underlying124 cells_125 bytes_125 info_125 agg_125 bok_125 Try.eqGuardType125 Try.stoodInHeld125 zero_125 Try.underlying125 cells_126 bytes_126
attribute [go_sem] info_126 agg_126 bok_126 Try.eqGuardType126 zero_126 Try.underlying126 cells_127 bytes_127 info_127 agg_127 bok_127 Try.eqGuardType127
attribute [go_sem] Try.stoodInHeld127 zero_127 Try.underlying127 cells_128 bytes_128 info_128 agg_128 bok_128 Try.eqGuardType128 Try.stoodInHeld128 zero_128 Try.underlying128
attribute [go_sem] cells_129 bytes_129 info_129 agg_129 zero_129 Try.underlying129 cells_130 bytes_130 info_130 agg_130 zero_130 Try.underlying130
attribute [go_sem] cells_131 bytes_131 info_131 agg_131 zero_131 Try.underlying131 cells_132 bytes_132 info_132 agg_132 zero_132 Try.underlying132
attribute [go_sem] cells_133 bytes_133 info_133 agg_133 zero_133 Try.underlying133 cells_134 bytes_134 info_134 agg_134 zero_134 Try.underlying134
attribute [go_sem] cells_135 bytes_135 info_135 agg_135 zero_135 Try.underlying135 cells_136 bytes_136 info_136 agg_136 bok_136 Try.eqGuardType136
attribute [go_sem] Try.stoodInHeld136 zero_136 Try.underlying136 cells_137 bytes_137 info_137 agg_137 bok_137 Try.eqGuardType137 Try.stoodInHeld137 zero_137 Try.underlying137
attribute [go_sem] cells_138 bytes_138 info_138 agg_138 zero_138 Try.underlying138 Try.results0 Try.results1 Try.results2 Try.results3 Try.results4 Try.results5
attribute [go_sem] Try.results6 Try.results7 Try.results8 Try.results9 Try.results10 Try.results11 Try.results12 Try.results13 Try.results14 Try.results15 Try.results16 Try.results17
attribute [go_sem] Try.results18 Try.results19 Try.results20 Try.results21 Try.results22 Try.results23 Try.results24 Try.results25 Try.results26 Try.results27 Try.results28 Try.results29
attribute [go_sem] Try.results30 Try.results31 Try.results32 Try.results33 Try.results34 Try.results35 Try.results36 Try.results37 Try.results38 Try.results39 Try.results40 Try.results41
attribute [go_sem] Try.results42 Try.results43 Try.results44 Try.results45 Try.results46 Try.results47 Try.results48 Try.results49 Try.results50 Try.results51 Try.results52 Try.results53
attribute [go_sem] Try.results54 Try.results55 Try.results56 Try.results57 Try.results58 Try.results59 Try.results60 Try.results61 Try.results62 Try.results63 Try.results64 Try.results65
attribute [go_sem] Try.results66 Try.results67 Try.results68 Try.results69 Try.results70 Try.results71 Try.results72 Try.results73 Try.results74 Try.results75 Try.results76 Try.results77
attribute [go_sem] Try.results78 Try.results79 Try.results80 Try.results81 Try.results82 Try.results83 Try.results84 Try.results85 Try.results86 Try.results87 Try.results88 Try.results89
attribute [go_sem] Try.results90 Try.results91 Try.results92 Try.results93 Try.results94 Try.results95 Try.results96 Try.results97 Try.results98 Try.results99 Try.results100 Try.results101
end Go.Dl

-- Slices of ints, of lists of ints: functions of the library.
namespace Go.Dl
open Go Go.Proofs
set_option maxRecDepth 10000

theorem clone_own (G : Nat → DVal) (l : List Int) (H : DHeap) (hl : l.length ≤ 1099511627776) : DCalls Try.prog G 34 [dIs l] H fun e H' => ∃ v, e = .ret v ∧ OwnA H 3 1 l.length (l.map dI) v H' := by
  refine dcalls_intro Try.func34 Try.call34 rfl (by kernel_rfl) ?_
  simp (disch := omega) only [go_sem, Nat.reduceEqDiff, Nat.reduceAdd, Nat.reduceMul, Nat.reduceSub, Nat.reduceLeDiff, ↓reduceIte, reduceCtorEq, Int.reduceAdd, Int.reduceSub, Int.reduceMul, Int.reduceNeg, Int.reduceToNat, List.reduceReplicate]
  intro b hb
  cases b with
  | true =>
    simp (disch := omega) only [go_sem, Nat.reduceEqDiff, Nat.reduceAdd, Nat.reduceMul, Nat.reduceSub, Nat.reduceLeDiff, ↓reduceIte, reduceCtorEq, Int.reduceAdd, Int.reduceSub, Int.reduceMul, Int.reduceNeg, Int.reduceToNat, List.reduceReplicate]
    have h0 : l = [] := by
      cases l with
      | nil => rfl
      | cons x l => exact absurd (hb (by simp)) (by simp)
    subst h0
    exact DFin.refl ⟨_, rfl, .inl ⟨rfl, rfl, rfl, rfl⟩⟩
  | false =>
    simp (disch := omega) only [go_sem, Nat.reduceEqDiff, Nat.reduceAdd, Nat.reduceMul, Nat.reduceSub, Nat.reduceLeDiff, ↓reduceIte, reduceCtorEq, Int.reduceAdd, Int.reduceSub, Int.reduceMul, Int.reduceNeg, Int.reduceToNat, List.reduceReplicate]
    intro r hr; dsimp only at hr
    by_cases h0 : l.length = 0
    · have h1 : l = [] := List.length_eq_zero_iff.1 h0
      subst h1
      simp (disch := omega) only [go_sem, Nat.reduceEqDiff, Nat.reduceAdd, Nat.reduceMul, Nat.reduceSub, Nat.reduceLeDiff, ↓reduceIte, reduceCtorEq, Int.reduceAdd, Int.reduceSub, Int.reduceMul, Int.reduceNeg, Int.reduceToNat, List.reduceReplicate]
      exact DFin.refl ⟨_, rfl, .inr ⟨r, hr, rfl, rfl, by simp [splice, upd_upd]⟩⟩
    · simp (disch := omega) only [go_sem, Nat.reduceEqDiff, Nat.reduceAdd, Nat.reduceMul, Nat.reduceSub, Nat.reduceLeDiff, ↓reduceIte, reduceCtorEq, Int.reduceAdd, Int.reduceSub, Int.reduceMul, Int.reduceNeg, Int.reduceToNat, List.reduceReplicate]
      intro r' hr'
      refine DFin.refl ⟨_, rfl, .inr ⟨r', ?_, by simp, rfl, ?_⟩⟩
      · by_cases e : r' = r
        · subst e; exact hr
        · simpa [e] using hr'
      · simp [upd_none_self hr, upd_upd, upd_self hr]

theorem clone_spec (G : Nat → DVal) (l : List Int) (H : DHeap) (hl : l.length ≤ 1099511627776) : DCalls Try.prog G 34 [dIs l] H (DRet (dIs l) H) := (clone_own G l H hl).frozen

/-- Where t is in l; -1: nowhere. -/
def idx (l : List Int) (t : Int) : Int := match l.findIdx? (· = t) with | some i => (i : Int) | none => -1

theorem index_spec (G : Nat → DVal) (l : List Int) (t : Int) (H : DHeap) (hl : l.length ≤ 1099511627776) : DCalls Try.prog G 68 [dIs l, dI t] H (DRet (dI (idx l t)) H) := by
  refine dcalls_intro Try.func68 Try.call68 rfl (by kernel_rfl) ?_
  simp (disch := omega) only [go_sem, Nat.reduceEqDiff, Nat.reduceAdd, Nat.reduceMul, Nat.reduceSub, Nat.reduceLeDiff, ↓reduceIte, reduceCtorEq, Int.reduceAdd, Int.reduceSub, Int.reduceMul, Int.reduceNeg, Int.reduceToNat, List.reduceReplicate]
  refine DLoop.run (fun (i : Nat) env heap => heap = H ∧ env 0 = dIs l ∧ env 1 = dI t ∧ env 7 = dI l.length ∧ env 8 = dI i ∧ i ≤ l.length ∧ ∀ x ∈ l.take i, x ≠ t) (fun i => l.length - i) 0 ?_ ?_
  · simp (disch := omega) only [go_sem, Nat.reduceEqDiff, Nat.reduceAdd, Nat.reduceMul, Nat.reduceSub, Nat.reduceLeDiff, ↓reduceIte, reduceCtorEq, Int.reduceAdd, Int.reduceSub, Int.reduceMul, Int.reduceNeg, Int.reduceToNat, List.reduceReplicate]
    simp
  · rintro i env heap ⟨rfl, h0, h1, h7, h8, hi, hn⟩
    by_cases hlt : i < l.length
    · by_cases hx : t = l[i]
      · simp (disch := omega) only [go_sem, Nat.reduceEqDiff, Nat.reduceAdd, Nat.reduceMul, Nat.reduceSub, Nat.reduceLeDiff, ↓reduceIte, reduceCtorEq, Int.reduceAdd, Int.reduceSub, Int.reduceMul, Int.reduceNeg, Int.reduceToNat, List.reduceReplicate, h0, h1, h7, h8, ← hx]
        refine DFin.refl ⟨?_, rfl⟩
        have : l.findIdx? (fun x => decide (x = t)) = some i := by
          rw [List.findIdx?_eq_some_iff_getElem]
          refine ⟨hlt, by simp [hx], fun j hj => ?_⟩
          have := hn (l[j]) (List.mem_take_iff_getElem.2 ⟨j, by omega, rfl⟩)
          simpa using this
        rw [idx, this]
      · simp (disch := omega) only [go_sem, Nat.reduceEqDiff, Nat.reduceAdd, Nat.reduceMul, Nat.reduceSub, Nat.reduceLeDiff, ↓reduceIte, reduceCtorEq, Int.reduceAdd, Int.reduceSub, Int.reduceMul, Int.reduceNeg, Int.reduceToNat, List.reduceReplicate, h0, h1, h7, h8, hx]
        refine ⟨i + 1, _, GhostS.refl _, ?_, by omega⟩
        simp (disch := omega) only [go_sem, Nat.reduceEqDiff, Nat.reduceAdd, Nat.reduceMul, Nat.reduceSub, Nat.reduceLeDiff, ↓reduceIte, reduceCtorEq, Int.reduceAdd, Int.reduceSub, Int.reduceMul, Int.reduceNeg, Int.reduceToNat, List.reduceReplicate, h0, h1, h7, h8]
        (repeat' apply And.intro) <;> (try first | rfl | assumption | omega)
        rw [List.take_add_one, List.getElem?_eq_getElem hlt]
        intro x hx'
        rcases List.mem_append.1 hx' with h | h
        · exact hn x h
        · simp at h; subst h; exact fun e => hx e.symm
    · simp (disch := omega) only [go_sem, Nat.reduceEqDiff, Nat.reduceAdd, Nat.reduceMul, Nat.reduceSub, Nat.reduceLeDiff, ↓reduceIte, reduceCtorEq, Int.reduceAdd, Int.reduceSub, Int.reduceMul, Int.reduceNeg, Int.reduceToNat, List.reduceReplicate, h0, h1, h7, h8]
      refine DFin.refl ⟨?_, rfl⟩
      have hi : i = l.length := by omega
      subst hi
      rw [List.take_length] at hn
      have : l.findIdx? (fun x => decide (x = t)) = none := by
        rw [List.findIdx?_eq_none_iff]
        intro x hx; simpa using hn x hx
      rw [idx, this]
end Go.Dl

-- More functions of the library: Grow, Concat, Delete, IndexFunc, at ints.
namespace Go.Dl
open Go Go.Proofs
set_option maxRecDepth 10000

theorem grow_nil (G : Nat → DVal) (n : Nat) (H : DHeap) (hn : n ≤ 1099511627776) : DCalls Try.prog G 83 [.nilSlice, dI n] H fun e H' =>
    (n = 0 ∧ e = .ret .nilSlice ∧ H' = H) ∨ (n ≠ 0 ∧ ∃ r, H r = none ∧ e = .ret (.oslice 1 r 0 0 n) ∧ H' = upd H r (some (.cells (List.replicate n (dI 0)) 3))) := by
  refine dcalls_intro Try.func83 Try.call83 rfl (by kernel_rfl) ?_
  by_cases h0 : n = 0
  · subst h0
    simp (disch := omega) only [go_sem, Nat.reduceEqDiff, Nat.reduceAdd, Nat.reduceMul, Nat.reduceSub, Nat.reduceLeDiff, ↓reduceIte, reduceCtorEq, Int.reduceAdd, Int.reduceSub, Int.reduceMul, Int.reduceNeg, Int.reduceToNat, List.reduceReplicate]
    exact DFin.refl (.inl ⟨rfl, rfl⟩)
  · simp (disch := omega) only [go_sem, Nat.reduceEqDiff, Nat.reduceAdd, Nat.reduceMul, Nat.reduceSub, Nat.reduceLeDiff, ↓reduceIte, reduceCtorEq, Int.reduceAdd, Int.reduceSub, Int.reduceMul, Int.reduceNeg, Int.reduceToNat, List.reduceReplicate]
    intro _
    intro r hr; dsimp only at hr
    simp (disch := omega) only [go_sem, Nat.reduceEqDiff, Nat.reduceAdd, Nat.reduceMul, Nat.reduceSub, Nat.reduceLeDiff, ↓reduceIte, reduceCtorEq, Int.reduceAdd, Int.reduceSub, Int.reduceMul, Int.reduceNeg, Int.reduceToNat, List.reduceReplicate]
    exact DFin.refl (.inr ⟨r, hr, by simp, rfl⟩)

def idxF (l : List Int) (p : Int → Bool) : Int := match l.findIdx? p with | some i => (i : Int) | none => -1

theorem indexFunc_spec (G : Nat → DVal) (l : List Int) (k : Nat) (cap : List DVal) (p : Int → Bool) (H : DHeap) (hl : l.length ≤ 1099511627776) (hf : ∀ x ∈ l, DCalls Try.prog G k (dI x :: cap) H (DRet (.bool (p x)) H)) :
    DCalls Try.prog G 69 [dIs l, .func (.func k) [] cap] H (DRet (dI (idxF l p)) H) := by
  refine dcalls_intro Try.func69 Try.call69 rfl (by kernel_rfl) ?_
  simp (disch := omega) only [go_sem, Nat.reduceEqDiff, Nat.reduceAdd, Nat.reduceMul, Nat.reduceSub, Nat.reduceLeDiff, ↓reduceIte, reduceCtorEq, Int.reduceAdd, Int.reduceSub, Int.reduceMul, Int.reduceNeg, Int.reduceToNat, List.reduceReplicate]
  refine DLoop.run (fun (i : Nat) env heap => heap = H ∧ env 0 = dIs l ∧ env 1 = .func (.func k) [] cap ∧ env 7 = dI l.length ∧ env 8 = dI i ∧ i ≤ l.length ∧ ∀ x ∈ l.take i, p x = false) (fun i => l.length - i) 0 ?_ ?_
  · simp (disch := omega) only [go_sem, Nat.reduceEqDiff, Nat.reduceAdd, Nat.reduceMul, Nat.reduceSub, Nat.reduceLeDiff, ↓reduceIte, reduceCtorEq, Int.reduceAdd, Int.reduceSub, Int.reduceMul, Int.reduceNeg, Int.reduceToNat, List.reduceReplicate]
    simp
  · rintro i env heap ⟨rfl, h0, h1, h7, h8, hi, hn⟩
    by_cases hlt : i < l.length
    · simp (disch := omega) only [go_sem, Nat.reduceEqDiff, Nat.reduceAdd, Nat.reduceMul, Nat.reduceSub, Nat.reduceLeDiff, ↓reduceIte, reduceCtorEq, Int.reduceAdd, Int.reduceSub, Int.reduceMul, Int.reduceNeg, Int.reduceToNat, List.reduceReplicate, h0, h1, h7, h8]
      refine (hf _ (List.getElem_mem hlt)).mono ?_
      rintro e H1 ⟨rfl, rfl⟩
      simp (disch := omega) only [go_sem, Nat.reduceEqDiff, Nat.reduceAdd, Nat.reduceMul, Nat.reduceSub, Nat.reduceLeDiff, ↓reduceIte, reduceCtorEq, Int.reduceAdd, Int.reduceSub, Int.reduceMul, Int.reduceNeg, Int.reduceToNat, List.reduceReplicate]
      cases hx : p l[i] with
      | true =>
        simp (disch := omega) only [go_sem, Nat.reduceEqDiff, Nat.reduceAdd, Nat.reduceMul, Nat.reduceSub, Nat.reduceLeDiff, ↓reduceIte, reduceCtorEq, Int.reduceAdd, Int.reduceSub, Int.reduceMul, Int.reduceNeg, Int.reduceToNat, List.reduceReplicate, h0, h1, h7, h8]
        refine DFin.refl ⟨?_, rfl⟩
        have : l.findIdx? p = some i := by
          rw [List.findIdx?_eq_some_iff_getElem]
          refine ⟨hlt, hx, fun j hj => ?_⟩
          have := hn (l[j]) (List.mem_take_iff_getElem.2 ⟨j, by omega, rfl⟩)
          simp [this]
        rw [idxF, this]
      | false =>
        simp (disch := omega) only [go_sem, Nat.reduceEqDiff, Nat.reduceAdd, Nat.reduceMul, Nat.reduceSub, Nat.reduceLeDiff, ↓reduceIte, reduceCtorEq, Int.reduceAdd, Int.reduceSub, Int.reduceMul, Int.reduceNeg, Int.reduceToNat, List.reduceReplicate, h0, h1, h7, h8]
        refine ⟨i + 1, _, GhostS.refl _, ?_, by omega⟩
        simp (disch := omega) only [go_sem, Nat.reduceEqDiff, Nat.reduceAdd, Nat.reduceMul, Nat.reduceSub, Nat.reduceLeDiff, ↓reduceIte, reduceCtorEq, Int.reduceAdd, Int.reduceSub, Int.reduceMul, Int.reduceNeg, Int.reduceToNat, List.reduceReplicate, h0, h1, h7, h8]
        (repeat' apply And.intro) <;> (try first | rfl | assumption | omega)
        rw [List.take_add_one, List.getElem?_eq_getElem hlt]
        intro x hx'
        rcases List.mem_append.1 hx' with h | h
        · exact hn x h
        · simp at h; subst h; exact hx
    · simp (disch := omega) only [go_sem, Nat.reduceEqDiff, Nat.reduceAdd, Nat.reduceMul, Nat.reduceSub, Nat.reduceLeDiff, ↓reduceIte, reduceCtorEq, Int.reduceAdd, Int.reduceSub, Int.reduceMul, Int.reduceNeg, Int.reduceToNat, List.reduceReplicate, h0, h1, h7, h8]
      refine DFin.refl ⟨?_, rfl⟩
      have hi : i = l.length := by omega
      subst hi
      rw [List.take_length] at hn
      have : l.findIdx? p = none := by
        rw [List.findIdx?_eq_none_iff]
        intro x hx; simpa using hn x hx
      rw [idxF, this]

theorem flat_take (q : List (List Int)) (k : Nat) (h : k < q.length) : (q.take (k + 1)).flatten = (q.take k).flatten ++ q[k] := by
  rw [List.take_add_one, List.getElem?_eq_getElem h, List.flatten_append]; simp
theorem flat_take_le (q : List (List Int)) (k : Nat) : (q.take k).flatten.length ≤ q.flatten.length := by
  have : q.flatten = (q.take k).flatten ++ (q.drop k).flatten := by rw [← List.flatten_append, List.take_append_drop]
  rw [this]; simp

theorem splice_fill (a b : List DVal) (n : Nat) (z : DVal) (h : b.length ≤ n) : splice (a ++ List.replicate n z) a.length b = (a ++ b) ++ List.replicate (n - b.length) z := by
  unfold splice
  rw [List.take_left, List.drop_append, List.drop_of_length_le (by omega)]
  simp

/-- A slice that has been made with room for T ints, of which l are filled. -/
def FillA (H : DHeap) (T : Nat) (l : List Int) (v : DVal) (heap : DHeap) : Prop :=
  (T = 0 ∧ v = .nilSlice ∧ heap = H) ∨ (T ≠ 0 ∧ ∃ r, H r = none ∧ v = .oslice 1 r 0 l.length T ∧ heap = upd H r (some (.cells (l.map dI ++ List.replicate (T - l.length) (dI 0)) 3)))

theorem concat_own (G : Nat → DVal) (q : List (List Int)) (H : DHeap) (hq : q.length ≤ 1099511627776) (hl : q.flatten.length ≤ 1099511627776) : DCalls Try.prog G 63 [dIss q] H fun e H' => ∃ v, e = .ret v ∧ OwnA H 3 1 q.flatten.length (q.flatten.map dI) v H' := by
  refine dcalls_intro Try.func63 Try.call63 rfl (by kernel_rfl) ?_
  simp (disch := omega) only [go_sem, Nat.reduceEqDiff, Nat.reduceAdd, Nat.reduceMul, Nat.reduceSub, Nat.reduceLeDiff, ↓reduceIte, reduceCtorEq, Int.reduceAdd, Int.reduceSub, Int.reduceMul, Int.reduceNeg, Int.reduceToNat, List.reduceReplicate]
  obtain ⟨I, hI⟩ : ∃ I : Nat → (Nat → DVal) → DHeap → Prop, ∀ k env heap, I k env heap ↔ (H = heap ∧ env 0 = dIss q ∧ env 9 = dIss q ∧ env 10 = dI q.length ∧ env 11 = dI k ∧ env 3 = dI (q.take k).flatten.length ∧ k ≤ q.length) := ⟨_, fun _ _ _ => Iff.rfl⟩
  refine DLoop.run I (fun k => q.length - k) 0 ((hI _ _ _).2 ?_) ?_
  · simp (disch := omega) only [go_sem, Nat.reduceEqDiff, Nat.reduceAdd, Nat.reduceMul, Nat.reduceSub, Nat.reduceLeDiff, ↓reduceIte, reduceCtorEq, Int.reduceAdd, Int.reduceSub, Int.reduceMul, Int.reduceNeg, Int.reduceToNat, List.reduceReplicate]
    simp
  · intro k env heap hk
    obtain ⟨rfl, h0, h9, h10, h11, h3, hk⟩ := (hI _ _ _).1 hk
    by_cases hlt : k < q.length
    · have h1 := flat_take q k hlt
      have h2 := flat_take_le q (k + 1)
      rw [h1, List.length_append] at h2
      simp (disch := omega) only [go_sem, Nat.reduceEqDiff, Nat.reduceAdd, Nat.reduceMul, Nat.reduceSub, Nat.reduceLeDiff, ↓reduceIte, reduceCtorEq, Int.reduceAdd, Int.reduceSub, Int.reduceMul, Int.reduceNeg, Int.reduceToNat, List.reduceReplicate, h0, h9, h10, h11, h3]
      refine ⟨k + 1, _, GhostS.refl _, (hI _ _ _).2 ?_, by omega⟩
      simp (disch := omega) only [go_sem, Nat.reduceEqDiff, Nat.reduceAdd, Nat.reduceMul, Nat.reduceSub, Nat.reduceLeDiff, ↓reduceIte, reduceCtorEq, Int.reduceAdd, Int.reduceSub, Int.reduceMul, Int.reduceNeg, Int.reduceToNat, List.reduceReplicate, h0, h9, h10, h11, h3]
      (repeat' apply And.intro) <;> (try first | rfl | assumption | omega)
      rw [h1, List.length_append, Int.natCast_add]
    · have hkq : k = q.length := by omega
      subst hkq
      rw [List.take_length] at h3
      simp (disch := omega) only [go_sem, Nat.reduceEqDiff, Nat.reduceAdd, Nat.reduceMul, Nat.reduceSub, Nat.reduceLeDiff, ↓reduceIte, reduceCtorEq, Int.reduceAdd, Int.reduceSub, Int.reduceMul, Int.reduceNeg, Int.reduceToNat, List.reduceReplicate, h0, h9, h10, h11, h3]
      refine (grow_nil G q.flatten.length H hl).mono ?_
      rintro e H1 hg
      obtain ⟨v, rfl, hv⟩ : ∃ v, e = .ret v ∧ FillA H q.flatten.length [] v H1 := by
        rcases hg with ⟨a, b, c⟩ | ⟨a, r, b, c, d⟩
        · exact ⟨_, b, .inl ⟨a, rfl, c⟩⟩
        · exact ⟨_, c, .inr ⟨a, r, b, rfl, by rw [d]; rfl⟩⟩
      clear hg
      simp (disch := omega) only [go_sem, Nat.reduceEqDiff, Nat.reduceAdd, Nat.reduceMul, Nat.reduceSub, Nat.reduceLeDiff, ↓reduceIte, reduceCtorEq, Int.reduceAdd, Int.reduceSub, Int.reduceMul, Int.reduceNeg, Int.reduceToNat, List.reduceReplicate, h0, h9, h10, h11, h3]
      obtain ⟨J, hJ⟩ : ∃ J : Nat → (Nat → DVal) → DHeap → Prop, ∀ k env heap, J k env heap ↔ (env 0 = dIss q ∧ env 25 = dIss q ∧ env 26 = dI q.length ∧ env 27 = dI k ∧ k ≤ q.length ∧ FillA H q.flatten.length (q.take k).flatten (env 6) heap) := ⟨_, fun _ _ _ => Iff.rfl⟩
      refine DLoop.run J (fun k => q.length - k) 0 ((hJ _ _ _).2 ?_) ?_
      · simp (disch := omega) only [go_sem, Nat.reduceEqDiff, Nat.reduceAdd, Nat.reduceMul, Nat.reduceSub, Nat.reduceLeDiff, ↓reduceIte, reduceCtorEq, Int.reduceAdd, Int.reduceSub, Int.reduceMul, Int.reduceNeg, Int.reduceToNat, List.reduceReplicate, h0]
        (repeat' apply And.intro) <;> (try first | rfl | assumption | omega)
      · intro k env H1 hk
        obtain ⟨h0, h25, h26, h27, hk, hv⟩ := (hJ _ _ _).1 hk
        by_cases hlt : k < q.length
        · have h1 := flat_take q k hlt
          have h2 := flat_take_le q (k + 1)
          rw [h1, List.length_append] at h2
          rcases hv with ⟨hT, h6, rfl⟩ | ⟨hT, r, hr, h6, rfl⟩
          · have h5 : q[k].length = 0 := by omega
            simp (disch := omega) only [go_sem, Nat.reduceEqDiff, Nat.reduceAdd, Nat.reduceMul, Nat.reduceSub, Nat.reduceLeDiff, ↓reduceIte, reduceCtorEq, Int.reduceAdd, Int.reduceSub, Int.reduceMul, Int.reduceNeg, Int.reduceToNat, List.reduceReplicate, h0, h25, h26, h27, h6, h5]
            refine ⟨k + 1, _, GhostS.refl _, (hJ _ _ _).2 ?_, by omega⟩
            simp (disch := omega) only [go_sem, Nat.reduceEqDiff, Nat.reduceAdd, Nat.reduceMul, Nat.reduceSub, Nat.reduceLeDiff, ↓reduceIte, reduceCtorEq, Int.reduceAdd, Int.reduceSub, Int.reduceMul, Int.reduceNeg, Int.reduceToNat, List.reduceReplicate, h0, h25, h26, h27, h6, h5]
            (repeat' apply And.intro) <;> (try first | rfl | assumption | omega)
            exact .inl ⟨hT, rfl, rfl⟩
          · simp (disch := omega) only [go_sem, Nat.reduceEqDiff, Nat.reduceAdd, Nat.reduceMul, Nat.reduceSub, Nat.reduceLeDiff, ↓reduceIte, reduceCtorEq, Int.reduceAdd, Int.reduceSub, Int.reduceMul, Int.reduceNeg, Int.reduceToNat, List.reduceReplicate, h0, h25, h26, h27, h6]
            refine ⟨by rw [List.length_append, List.length_map, List.length_replicate]; omega, k + 1, _, GhostS.refl _, (hJ _ _ _).2 ?_, by omega⟩
            simp (disch := omega) only [go_sem, Nat.reduceEqDiff, Nat.reduceAdd, Nat.reduceMul, Nat.reduceSub, Nat.reduceLeDiff, ↓reduceIte, reduceCtorEq, Int.reduceAdd, Int.reduceSub, Int.reduceMul, Int.reduceNeg, Int.reduceToNat, List.reduceReplicate, h0, h25, h26, h27, h6]
            (repeat' apply And.intro) <;> (try first | rfl | assumption | omega)
            refine .inr ⟨hT, r, hr, by rw [h1, List.length_append], ?_⟩
            rw [h1]
            have := splice_fill ((q.take k).flatten.map dI) (q[k].map dI) (q.flatten.length - (q.take k).flatten.length) (dI 0) (by rw [List.length_map]; omega)
            rw [List.length_map] at this
            rw [this, List.map_append, List.length_map, List.length_append]
            congr 5; omega
        · simp (disch := omega) only [go_sem, Nat.reduceEqDiff, Nat.reduceAdd, Nat.reduceMul, Nat.reduceSub, Nat.reduceLeDiff, ↓reduceIte, reduceCtorEq, Int.reduceAdd, Int.reduceSub, Int.reduceMul, Int.reduceNeg, Int.reduceToNat, List.reduceReplicate, h0, h25, h26, h27]
          have hkq : k = q.length := by omega
          subst hkq
          rw [List.take_length] at hv
          rcases hv with ⟨hT, h6, rfl⟩ | ⟨hT, r, hr, h6, rfl⟩
          · simp (disch := omega) only [go_sem, Nat.reduceEqDiff, Nat.reduceAdd, Nat.reduceMul, Nat.reduceSub, Nat.reduceLeDiff, ↓reduceIte, reduceCtorEq, Int.reduceAdd, Int.reduceSub, Int.reduceMul, Int.reduceNeg, Int.reduceToNat, List.reduceReplicate, h6]
            have : q.flatten = [] := List.length_eq_zero_iff.1 hT
            exact DFin.refl ⟨_, rfl, by rw [this]; exact .inl ⟨rfl, rfl, rfl, rfl⟩⟩
          · simp (disch := omega) only [go_sem, Nat.reduceEqDiff, Nat.reduceAdd, Nat.reduceMul, Nat.reduceSub, Nat.reduceLeDiff, ↓reduceIte, reduceCtorEq, Int.reduceAdd, Int.reduceSub, Int.reduceMul, Int.reduceNeg, Int.reduceToNat, List.reduceReplicate, h6]
            refine DFin.refl ⟨_, rfl, .inr ⟨r, hr, by rw [List.length_map, Nat.mul_one], rfl, ?_⟩⟩
            rw [Nat.sub_self]; simp

theorem concat_spec (G : Nat → DVal) (q : List (List Int)) (H : DHeap) (hq : q.length ≤ 1099511627776) (hl : q.flatten.length ≤ 1099511627776) : DCalls Try.prog G 63 [dIss q] H (DRet (dIs q.flatten) H) := (concat_own G q H hq hl).frozen
end Go.Dl

-- 
namespace Go.Dl
open Go Go.Proofs
set_option maxRecDepth 10000

/-- All callers, with their entries. -/
def clp (e : Nat) : List (List Int) → List (Nat × Int)
  | [] => []
  | l :: q => l.map (fun t => (e, t)) ++ clp (e + 1) q
/-- What 'callers' comes with. -/
def cl (e : Nat) (q : List (List Int)) : List (List DVal) := (clp e q).map fun p => [dI p.1, dI p.2]
theorem cl_nil (e : Nat) : cl e [] = [] := rfl
theorem cl_cons (e : Nat) (l : List Int) (q : List (List Int)) : cl e (l :: q) = l.map (fun t => [dI e, dI t]) ++ cl (e + 1) q := by simp [cl, clp]

theorem drop_cons_iff {α : Type} {L : List α} {k : Nat} {x : α} {r : List α} (h : L.drop k = x :: r) : L[k]? = some x ∧ L.drop (k + 1) = r ∧ k + 1 ≤ L.length := by
  have h1 : k < L.length := by
    rcases Nat.lt_or_ge k L.length with h1 | h1
    · exact h1
    · rw [List.drop_eq_nil_of_le h1] at h; cases h
  rw [List.drop_eq_getElem_cons h1] at h
  injection h with h2 h3
  exact ⟨by rw [List.getElem?_eq_getElem h1, h2], h3, h1⟩

theorem cl_len (e : Nat) (q : List (List Int)) : ∀ x ∈ cl e q, x.length = 2 := by
  intro x hx
  simp only [cl, List.mem_map] at hx
  obtain ⟨p, _, rfl⟩ := hx
  rfl

theorem clp_snd (e : Nat) (q : List (List Int)) : (clp e q).map (·.2) = q.flatten := by
  induction q generalizing e with
  | nil => rfl
  | cons l q ih => simp [clp, ih, Function.comp_def]

theorem cl_get {e : Nat} {q : List (List Int)} {k : Nat} {x : List DVal} (h : (cl e q)[k]? = some x) : ∃ p, (clp e q)[k]? = some p ∧ x = [dI p.1, dI p.2] := by
  simp only [cl, List.getElem?_map, Option.map_eq_some_iff] at h
  obtain ⟨p, h1, h2⟩ := h
  exact ⟨p, h1, h2.symm⟩

theorem callers1_iter (G : Nat → DVal) (q : List (List Int)) (hq : q.length ≤ 1099511627776) (hl : ∀ l ∈ q, l.length ≤ 1099511627776) : DIter Try.prog G 84 [.vptr [dIss q] 0] h0 (cl 0 q) := by
  intro l I Ix Hi X d1 _ _ _ hHl hI hY
  rw [over_h0]
  refine dcalls_intro Try.func84 Try.call84 rfl (by kernel_rfl) ?_
  simp (disch := omega) only [go_sem, Nat.reduceEqDiff, Nat.reduceAdd, Nat.reduceMul, Nat.reduceSub, Nat.reduceLeDiff, ↓reduceIte, reduceCtorEq, Int.reduceAdd, Int.reduceSub, Int.reduceMul, Int.reduceNeg, Int.reduceToNat, List.reduceReplicate]
  refine DLoop.run (fun (e : Nat) env heap => env 0 = .func (.yield l) [] [] ∧ env 7 = dIss q ∧ env 8 = dI q.length ∧ env 9 = dI e ∧ e ≤ q.length ∧ ∃ k X, heap = over Hi X ∧ Disj Hi X ∧ I k X ∧ (cl 0 q).drop k = cl e (q.drop e) ∧ k ≤ (cl 0 q).length) (fun e => q.length - e) 0 ?_ ?_
  · simp (disch := omega) only [go_sem, Nat.reduceEqDiff, Nat.reduceAdd, Nat.reduceMul, Nat.reduceSub, Nat.reduceLeDiff, ↓reduceIte, reduceCtorEq, Int.reduceAdd, Int.reduceSub, Int.reduceMul, Int.reduceNeg, Int.reduceToNat, List.reduceReplicate]
    exact ⟨rfl, 0, X, rfl, d1, hI, by simp, by simp⟩
  · rintro e env heap ⟨h0', h7, h8, h9, he, k, X, rfl, d1, hI, hL, hk⟩
    by_cases hlt : e < q.length
    · simp (disch := omega) only [go_sem, Nat.reduceEqDiff, Nat.reduceAdd, Nat.reduceMul, Nat.reduceSub, Nat.reduceLeDiff, ↓reduceIte, reduceCtorEq, Int.reduceAdd, Int.reduceSub, Int.reduceMul, Int.reduceNeg, Int.reduceToNat, List.reduceReplicate, h0', h7, h8, h9]
      refine DLoop.run (fun (i : Nat) env heap => env 0 = .func (.yield l) [] [] ∧ env 7 = dIss q ∧ env 8 = dI q.length ∧ env 9 = dI e ∧ env 3 = dI e ∧ env 14 = dIs q[e] ∧ env 15 = dI q[e].length ∧ env 16 = dI i ∧ i ≤ q[e].length ∧ ∃ k X, heap = over Hi X ∧ Disj Hi X ∧ I k X ∧ (cl 0 q).drop k = (q[e].drop i).map (fun t => [dI e, dI t]) ++ cl (e + 1) (q.drop (e + 1)) ∧ k ≤ (cl 0 q).length) (fun i => q[e].length - i) 0 ?_ ?_
      · simp (disch := omega) only [go_sem, Nat.reduceEqDiff, Nat.reduceAdd, Nat.reduceMul, Nat.reduceSub, Nat.reduceLeDiff, ↓reduceIte, reduceCtorEq, Int.reduceAdd, Int.reduceSub, Int.reduceMul, Int.reduceNeg, Int.reduceToNat, List.reduceReplicate, h0', h7, h8, h9]
        refine ⟨rfl, k, X, rfl, d1, hI, ?_, hk⟩
        rw [hL, List.drop_eq_getElem_cons hlt, cl_cons]
      · rintro i env heap ⟨h0', h7, h8, h9, h3, h14, h15, h16, hi, k, X, rfl, d1, hI, hL, hk⟩
        have hle := hl _ (List.getElem_mem hlt)
        by_cases hlt' : i < q[e].length
        · rw [List.drop_eq_getElem_cons hlt'] at hL
          obtain ⟨hx, hL', hk'⟩ := drop_cons_iff hL
          simp (disch := omega) only [go_sem, Nat.reduceEqDiff, Nat.reduceAdd, Nat.reduceMul, Nat.reduceSub, Nat.reduceLeDiff, ↓reduceIte, reduceCtorEq, Int.reduceAdd, Int.reduceSub, Int.reduceMul, Int.reduceNeg, Int.reduceToNat, List.reduceReplicate, h0', h7, h8, h9, h3, h14, h15, h16]
          refine (hY k _ Hi X d1 rfl hx hI).mono ?_
          rintro e1 H1 ⟨X', (⟨rfl, rfl, d2, hI2⟩ | ⟨rfl, o, ho, rfl, d2, hx2⟩)⟩
          · simp (disch := omega) only [go_sem, Nat.reduceEqDiff, Nat.reduceAdd, Nat.reduceMul, Nat.reduceSub, Nat.reduceLeDiff, ↓reduceIte, reduceCtorEq, Int.reduceAdd, Int.reduceSub, Int.reduceMul, Int.reduceNeg, Int.reduceToNat, List.reduceReplicate, h0', h7, h8, h9, h3, h14, h15, h16]
            refine ⟨i + 1, _, GhostS.refl _, ?_, by omega⟩
            simp (disch := omega) only [go_sem, Nat.reduceEqDiff, Nat.reduceAdd, Nat.reduceMul, Nat.reduceSub, Nat.reduceLeDiff, ↓reduceIte, reduceCtorEq, Int.reduceAdd, Int.reduceSub, Int.reduceMul, Int.reduceNeg, Int.reduceToNat, List.reduceReplicate, h0', h7, h8, h9, h3, h14, h15, h16]
            (repeat' apply And.intro) <;> (try first | rfl | assumption | omega)
            exact ⟨k + 1, X', rfl, d2, hI2, hL', hk'⟩
          · simp (disch := omega) only [go_sem, Nat.reduceEqDiff, Nat.reduceAdd, Nat.reduceMul, Nat.reduceSub, Nat.reduceLeDiff, ↓reduceIte, reduceCtorEq, Int.reduceAdd, Int.reduceSub, Int.reduceMul, Int.reduceNeg, Int.reduceToNat, List.reduceReplicate, h0', h7, h8, h9, h3, h14, h15, h16]
            refine DFin.refl ⟨⟨_, rfl⟩, X', .inr ⟨o, ho, rfl, d2, hx2⟩⟩
        · simp (disch := omega) only [go_sem, Nat.reduceEqDiff, Nat.reduceAdd, Nat.reduceMul, Nat.reduceSub, Nat.reduceLeDiff, ↓reduceIte, reduceCtorEq, Int.reduceAdd, Int.reduceSub, Int.reduceMul, Int.reduceNeg, Int.reduceToNat, List.reduceReplicate, h0', h7, h8, h9, h3, h14, h15, h16]
          refine ⟨e + 1, _, GhostS.refl _, ?_, by omega⟩
          simp (disch := omega) only [go_sem, Nat.reduceEqDiff, Nat.reduceAdd, Nat.reduceMul, Nat.reduceSub, Nat.reduceLeDiff, ↓reduceIte, reduceCtorEq, Int.reduceAdd, Int.reduceSub, Int.reduceMul, Int.reduceNeg, Int.reduceToNat, List.reduceReplicate, h0', h7, h8, h9, h3, h14, h15, h16]
          (repeat' apply And.intro) <;> (try first | rfl | assumption | omega)
          refine ⟨k, X, rfl, d1, hI, ?_, hk⟩
          have : i = q[e].length := by omega
          subst this
          rw [hL]; simp
    · simp (disch := omega) only [go_sem, Nat.reduceEqDiff, Nat.reduceAdd, Nat.reduceMul, Nat.reduceSub, Nat.reduceLeDiff, ↓reduceIte, reduceCtorEq, Int.reduceAdd, Int.reduceSub, Int.reduceMul, Int.reduceNeg, Int.reduceToNat, List.reduceReplicate, h0', h7, h8, h9]
      have : e = q.length := by omega
      subst this
      have hkk : k = (cl 0 q).length := by
        rw [List.drop_length, cl_nil] at hL; have := List.drop_eq_nil_iff.1 hL; omega
      subst hkk
      refine DFin.refl ⟨⟨_, rfl⟩, X, .inl ⟨rfl, d1, hI⟩⟩
theorem callers_spec (G : Nat → DVal) (q : List (List Int)) (H : DHeap) : DCalls Try.prog G 67 [dIss q] H fun e H' => e = .ret (.func (.func 84) [] [.vptr [dIss q] 0]) ∧ H' = H := by
  refine dcalls_intro Try.func67 Try.call67 rfl (by kernel_rfl) ?_
  simp (disch := omega) only [go_sem, Nat.reduceEqDiff, Nat.reduceAdd, Nat.reduceMul, Nat.reduceSub, Nat.reduceLeDiff, ↓reduceIte, reduceCtorEq, Int.reduceAdd, Int.reduceSub, Int.reduceMul, Int.reduceNeg, Int.reduceToNat, List.reduceReplicate]
  intro r hr
  simp (disch := omega) only [go_sem, Nat.reduceEqDiff, Nat.reduceAdd, Nat.reduceMul, Nat.reduceSub, Nat.reduceLeDiff, ↓reduceIte, reduceCtorEq, Int.reduceAdd, Int.reduceSub, Int.reduceMul, Int.reduceNeg, Int.reduceToNat, List.reduceReplicate]
  refine DFin.fz r (upd_same _ _ _) ?_
  simp (disch := omega) only [go_sem, Nat.reduceEqDiff, Nat.reduceAdd, Nat.reduceMul, Nat.reduceSub, Nat.reduceLeDiff, ↓reduceIte, reduceCtorEq, Int.reduceAdd, Int.reduceSub, Int.reduceMul, Int.reduceNeg, Int.reduceToNat, List.reduceReplicate, upd_undo hr]
  exact DFin.refl ⟨rfl, rfl⟩

/-- The lists are queues. -/
def mayQ (q : List (List Int)) : Bool := decide (q.length ≤ 8) && q.flatten.all (fun t => decide (0 ≤ t ∧ t < 32)) && decide q.flatten.Nodup

def seenA (l : List Int) : List DVal := (List.range 32).map fun (i : Nat) => .bool (decide ((i : Int) ∈ l))
theorem seenA_len (l : List Int) : (seenA l).length = 32 := by simp [seenA]
theorem seenA_get (l : List Int) (i : Nat) (h : i < 32) : (seenA l)[i]? = some (.bool (decide ((i : Int) ∈ l))) := by simp [seenA, h]
theorem seenA_add (l : List Int) (i : Nat) (h : i < 32) : splice (seenA l) i [.bool true] = seenA (l ++ [(i : Int)]) := by
  apply List.ext_getElem?
  intro j
  simp only [splice]
  have h1 : ((seenA l).take i).length = i := by simp [seenA]; omega
  rw [List.append_assoc]
  rcases Nat.lt_trichotomy j i with hj | hj | hj
  · rw [List.getElem?_append_left (by omega), List.getElem?_take_of_lt hj, seenA_get _ _ (by omega), seenA_get _ _ (by omega)]
    have : (j : Int) ≠ (i : Int) := by omega
    simp [this]
  · subst hj
    rw [List.getElem?_append_right (by omega), h1, seenA_get _ _ h]
    simp
  · rw [List.getElem?_append_right (by omega), h1]
    have : j - i = (j - i - 1) + 1 := by omega
    rw [this]
    simp only [List.cons_append, List.nil_append, List.getElem?_cons_succ, List.getElem?_drop, List.length_cons, List.length_nil]
    rw [show i + (0 + 1) + (j - i - 1) = j by omega]
    by_cases hj2 : j < 32
    · rw [seenA_get _ _ hj2, seenA_get _ _ hj2]
      have : (j : Int) ≠ (i : Int) := by omega
      simp [this]
    · rw [List.getElem?_eq_none (by rw [seenA_len]; omega), List.getElem?_eq_none (by rw [seenA_len]; omega)]

theorem take_succ_get {α : Type} {l : List α} {k : Nat} {x : α} (h : l[k]? = some x) : l.take (k + 1) = l.take k ++ [x] := by
  rw [List.take_add_one, h]; rfl

theorem not_mayQ {q : List (List Int)} {k : Nat} {t : Int} (h : q.flatten[k]? = some t) (hb : ¬ (0 ≤ t ∧ t < 32) ∨ t ∈ q.flatten.take k) : mayQ q = false := by
  have hm := List.mem_of_getElem? h
  unfold mayQ
  rcases hb with hb | hb
  · have : q.flatten.all (fun t => decide (0 ≤ t ∧ t < 32)) = false := by
      rw [List.all_eq_false]
      exact ⟨t, hm, by simpa using hb⟩
    rw [this]; simp
  · have : ¬ q.flatten.Nodup := by
      intro hn
      have h1 := take_succ_get h
      have h2 : (q.flatten.take (k + 1)).Nodup := hn.sublist (List.take_sublist _ _)
      rw [h1] at h2
      have := (List.nodup_append.1 h2).2.2 t hb t (by simp)
      exact this rfl
    simp [this]

theorem may_spec (G : Nat → DVal) (q : List (List Int)) (H : DHeap) (hq : q.length ≤ 1099511627776) (hl : ∀ l ∈ q, l.length ≤ 1099511627776) : DCalls Try.prog G 27 [dIss q] H fun e H' => e = .ret (.bool (mayQ q)) ∧ H' = H := by
  refine dcalls_intro Try.func27 Try.call27 rfl (by kernel_rfl) ?_
  simp (disch := omega) only [go_sem, Nat.reduceEqDiff, Nat.reduceAdd, Nat.reduceMul, Nat.reduceSub, Nat.reduceLeDiff, ↓reduceIte, reduceCtorEq, Int.reduceAdd, Int.reduceSub, Int.reduceMul, Int.reduceNeg, Int.reduceToNat, List.reduceReplicate]
  intro r1 h1
  simp (disch := omega) only [go_sem, Nat.reduceEqDiff, Nat.reduceAdd, Nat.reduceMul, Nat.reduceSub, Nat.reduceLeDiff, ↓reduceIte, reduceCtorEq, Int.reduceAdd, Int.reduceSub, Int.reduceMul, Int.reduceNeg, Int.reduceToNat, List.reduceReplicate]
  intro r2 h2
  simp only [upd_eq_none] at h1 h2
  obtain ⟨n1, n2, h2⟩ := h2
  simp (disch := omega) only [go_sem, Nat.reduceEqDiff, Nat.reduceAdd, Nat.reduceMul, Nat.reduceSub, Nat.reduceLeDiff, ↓reduceIte, reduceCtorEq, Int.reduceAdd, Int.reduceSub, Int.reduceMul, Int.reduceNeg, Int.reduceToNat, List.reduceReplicate]
  refine (callers_spec G q _).mono ?_
  rintro e H1 ⟨rfl, rfl⟩
  simp (disch := omega) only [go_sem, Nat.reduceEqDiff, Nat.reduceAdd, Nat.reduceMul, Nat.reduceSub, Nat.reduceLeDiff, ↓reduceIte, reduceCtorEq, Int.reduceAdd, Int.reduceSub, Int.reduceMul, Int.reduceNeg, Int.reduceToNat, List.reduceReplicate]
  refine dwp_range 84 _ (cl 0 q) (callers1_iter G q hq hl) rfl (by kernel_rfl) (cl_len 0 q) H (upd (upd h0 r1 (some (.cells [.bool false] 4))) r2 (some (.cells (seenA []) 110))) (by simp only [← upd_over, over_h0]; rfl) (((Disj.h0 H).hi h1 _).hi h2 _)
    (fun k X => X = upd (upd h0 r1 (some (.cells [.bool false] 4))) r2 (some (.cells (seenA (q.flatten.take k)) 110)) ∧ (q.flatten.take k).Nodup ∧ ∀ t ∈ q.flatten.take k, 0 ≤ t ∧ t < 32)
    (fun c X => c = .ret ∧ mayQ q = false ∧ ∃ A, X = upd (upd h0 r1 (some (.cells [.bool false] 4))) r2 (some (.cells A 110))) ⟨rfl, by simp, by simp⟩ ?_ ?_ ?_
  · rintro k x Hi X d1 hx ⟨rfl, hn, hr⟩
    obtain ⟨⟨e, t⟩, hp, rfl⟩ := cl_get hx
    have ht : q.flatten[k]? = some t := by
      rw [← clp_snd 0, List.getElem?_map, hp]; rfl
    have bad : (¬ (0 ≤ t ∧ t < 32) ∨ t ∈ q.flatten.take k) → mayQ q = false := not_mayQ ht
    have D : ∀ a b, Disj Hi (upd (upd h0 r1 a) r2 b) := fun a b => ((Disj.h0 Hi).hi (d1 r1 (by simp [upd, n2])) a).hi (d1 r2 (by simp [upd])) b
    by_cases c1 : t < 0
    · simp (disch := omega) only [go_sem, Nat.reduceEqDiff, Nat.reduceAdd, Nat.reduceMul, Nat.reduceSub, Nat.reduceLeDiff, ↓reduceIte, reduceCtorEq, Int.reduceAdd, Int.reduceSub, Int.reduceMul, Int.reduceNeg, Int.reduceToNat, List.reduceReplicate, n1, n2, upd_swap n2]
      exact ⟨_, rfl, D _ _, bad (.inl (by omega)), _, rfl⟩
    by_cases c2 : 32 ≤ t
    · simp (disch := omega) only [go_sem, Nat.reduceEqDiff, Nat.reduceAdd, Nat.reduceMul, Nat.reduceSub, Nat.reduceLeDiff, ↓reduceIte, reduceCtorEq, Int.reduceAdd, Int.reduceSub, Int.reduceMul, Int.reduceNeg, Int.reduceToNat, List.reduceReplicate, n1, n2, upd_swap n2]
      exact ⟨_, rfl, D _ _, bad (.inl (by omega)), _, rfl⟩
    obtain ⟨i, rfl⟩ : ∃ i : Nat, t = i := ⟨t.toNat, by omega⟩
    by_cases c3 : (i : Int) ∈ q.flatten.take k
    · simp (disch := omega) only [go_sem, Nat.reduceEqDiff, Nat.reduceAdd, Nat.reduceMul, Nat.reduceSub, Nat.reduceLeDiff, ↓reduceIte, reduceCtorEq, Int.reduceAdd, Int.reduceSub, Int.reduceMul, Int.reduceNeg, Int.reduceToNat, List.reduceReplicate, n1, n2, upd_swap n2, seenA_len, seenA_get _ i (by omega), c3]
      exact ⟨_, rfl, D _ _, bad (.inr c3), _, rfl⟩
    · simp (disch := omega) only [go_sem, Nat.reduceEqDiff, Nat.reduceAdd, Nat.reduceMul, Nat.reduceSub, Nat.reduceLeDiff, ↓reduceIte, reduceCtorEq, Int.reduceAdd, Int.reduceSub, Int.reduceMul, Int.reduceNeg, Int.reduceToNat, List.reduceReplicate, n1, n2, upd_swap n2, seenA_len, seenA_get _ i (by omega), c3, seenA_add _ i (by omega)]
      refine ⟨_, rfl, D _ _, ?_, ?_, ?_⟩
      · rw [take_succ_get ht]
      · rw [take_succ_get ht, List.nodup_append]
        exact ⟨hn, by simp, fun a ha b hb e => by simp at hb; subst hb; subst e; exact c3 ha⟩
      · rw [take_succ_get ht]
        intro x hx
        rcases List.mem_append.1 hx with hx | hx
        · exact hr x hx
        · simp at hx; omega
  · rintro X d1 ⟨rfl, hn, hr⟩
    have hall : q.flatten.take (cl 0 q).length = q.flatten := by
      rw [← clp_snd 0, cl, List.take_of_length_le (by simp)]
    rw [hall] at hn hr
    simp (disch := omega) only [go_sem, Nat.reduceEqDiff, Nat.reduceAdd, Nat.reduceMul, Nat.reduceSub, Nat.reduceLeDiff, ↓reduceIte, reduceCtorEq, Int.reduceAdd, Int.reduceSub, Int.reduceMul, Int.reduceNeg, Int.reduceToNat, List.reduceReplicate, n1, n2, upd_swap n2]
    refine DFin.over (((Disj.h0 H).hi h1 _).hi h2 _) ⟨?_, rfl⟩
    have : q.flatten.all (fun t => decide (0 ≤ t ∧ t < 32)) = true := by
      rw [List.all_eq_true]; intro x hx; simpa using hr x hx
    simp only [mayQ, this, hn, decide_true, Bool.and_true]
    congr 3; simp; omega
  · rintro c X d1 ⟨rfl, hm, A, rfl⟩
    simp (disch := omega) only [go_sem, Nat.reduceEqDiff, Nat.reduceAdd, Nat.reduceMul, Nat.reduceSub, Nat.reduceLeDiff, ↓reduceIte, reduceCtorEq, Int.reduceAdd, Int.reduceSub, Int.reduceMul, Int.reduceNeg, Int.reduceToNat, List.reduceReplicate, n1, n2, DJump]
    refine DFin.over (((Disj.h0 H).hi h1 _).hi h2 _) ?_
    exact ⟨by rw [hm], rfl⟩
end Go.Dl

-- entry: check, with, Delete.
namespace Go.Dl
open Go Go.Proofs
set_option maxRecDepth 10000

theorem splice_set {α : Type} (f : α → DVal) (l : List α) (e : Nat) (x : α) (h : e < l.length) : splice (l.map f) e [f x] = (l.set e x).map f := by
  unfold splice
  rw [List.set_eq_take_append_cons_drop, if_pos h]
  simp

theorem splice_end (a b c : List DVal) (h : c.length = b.length) : splice (a ++ c) a.length b = a ++ b := by
  unfold splice
  rw [List.take_left, List.drop_of_length_le (by simp; omega), List.append_nil]

theorem del_cells (l : List Int) (i : Nat) (h : i < l.length) : splice (splice (l.map dI) i ((l.map dI).drop (i + 1))) (l.length - 1) [dI 0] = (l.eraseIdx i).map dI ++ [dI 0] := by
  rw [List.eraseIdx_eq_take_drop_succ]
  have h1 : splice (l.map dI) i ((l.map dI).drop (i + 1)) = (l.take i ++ l.drop (i + 1)).map dI ++ (l.map dI).drop (l.length - 1) := by
    unfold splice
    rw [List.map_append, List.map_take, List.map_drop]
    congr 2
    simp; omega
  have h2 : ((l.take i ++ l.drop (i + 1)).map dI).length = l.length - 1 := by simp; omega
  rw [h1, ← h2, splice_end _ _ _ (by simp; omega)]

theorem delete_raw (G : Nat → DVal) (l : List Int) (i : Nat) (v : DVal) (H H0 : DHeap) (hl : l.length ≤ 1099511627776) (hi : i < l.length) (hv : OwnA H 3 1 l.length (l.map dI) v H0) :
    DCalls Try.prog G 66 [v, dI i, dI (i + 1)] H0 fun e H' => ∃ r, H r = none ∧ e = .ret (.oslice 1 r 0 (l.length - 1) l.length) ∧ H' = upd H r (some (.cells ((l.eraseIdx i).map dI ++ [dI 0]) 3)) := by
  rcases hv with ⟨h0, _⟩ | ⟨r, hr, hcl, rfl, rfl⟩
  · omega
  refine dcalls_intro Try.func66 Try.call66 rfl (by kernel_rfl) ?_
  have h1 : ¬ ((i : Int) = i + 1) := by omega
  simp (disch := omega) only [go_sem, Nat.reduceEqDiff, Nat.reduceAdd, Nat.reduceMul, Nat.reduceSub, Nat.reduceLeDiff, ↓reduceIte, reduceCtorEq, Int.reduceAdd, Int.reduceSub, Int.reduceMul, Int.reduceNeg, Int.reduceToNat, List.reduceReplicate, h1]
  refine dwp_draws (by kernel_rfl) (.take 0 (.take 1 (.take 2 (.take 3 (.take 4 (.take 5 (.go 6 [] (.take 7 .done)))))))) (by kernel_rfl) ?_
  simp (disch := omega) only [go_sem, Nat.reduceEqDiff, Nat.reduceAdd, Nat.reduceMul, Nat.reduceSub, Nat.reduceLeDiff, ↓reduceIte, reduceCtorEq, Int.reduceAdd, Int.reduceSub, Int.reduceMul, Int.reduceNeg, Int.reduceToNat, List.reduceReplicate]
  have e1 : ((i : Int) + 1).toNat = i + 1 := by omega
  have e2 : i + (l.length - (i + 1)) = l.length - 1 := by omega
  have e3 : ((l.map dI).drop (i + 1)).take (l.length - (i + 1)) = (l.map dI).drop (i + 1) := List.take_of_length_le (by simp)
  have e4 : l.length - (l.length - 1) = 1 := by omega
  simp only [e1, e3, Nat.sub_zero]
  simp only [e2, e4, List.replicate_one]
  rw [show splice (splice (l.map dI) i ((l.map dI).drop (i + 1))) (l.length - 1) [DVal.int .i64 0] = _ from del_cells l i hi]
  refine ⟨by simp, ?_, ?_, ?_⟩
  · rw [← List.map_drop]; exact ints_one _
  · have := del_cells l i hi
    simp only [splice, List.length_append, List.length_take, List.length_drop, List.length_map]; omega
  · exact DFin.refl ⟨r, hr, rfl, rfl⟩

theorem delete_own (G : Nat → DVal) (l : List Int) (i : Nat) (v : DVal) (H H0 : DHeap) (hl : l.length ≤ 1099511627776) (hi : i < l.length) (hv : OwnA H 3 1 l.length (l.map dI) v H0) :
    DCalls Try.prog G 66 [v, dI i, dI (i + 1)] H0 fun e H' => ∃ v, e = .ret v ∧ OwnB H 3 1 (l.length - 1) ((l.eraseIdx i).map dI) v H' :=
  (delete_raw G l i v H H0 hl hi hv).mono fun x H' ⟨r, h1, h2, h3⟩ => ⟨_, h2, .inr ⟨r, _, [dI 0], h1, by rw [List.length_map, List.length_eraseIdx, if_pos hi, Nat.mul_one], rfl, h3⟩⟩

theorem delete_spec (G : Nat → DVal) (l : List Int) (i : Nat) (v : DVal) (H H0 : DHeap) (hl : l.length ≤ 1099511627776) (hi : i < l.length) (hv : OwnA H 3 1 l.length (l.map dI) v H0) :
    DCalls Try.prog G 66 [v, dI i, dI (i + 1)] H0 (DRet (dIs (l.eraseIdx i)) H) := by
  have h1 := (delete_own G l i v H H0 hl hi hv)
  have h2 : l.length - 1 = (l.eraseIdx i).length := by rw [List.length_eraseIdx, if_pos hi]
  refine h1.ghost ?_
  rintro x H' ⟨v, rfl, hv⟩
  rw [h2] at hv
  exact ⟨v, _, H, rfl, hv.ghost, rfl, rfl⟩

/-- The error of queues, an entry and a task. -/
def chk (q : List (List Int)) (e t : Int) : Int := if mayQ q then (if 0 ≤ e ∧ e < q.length ∧ 0 ≤ t ∧ t < 32 then 0 else 4) else 2

theorem check_spec (G : Nat → DVal) (q : List (List Int)) (e t : Int) (H : DHeap) (hq : q.length ≤ 1099511627776) (hl : ∀ l ∈ q, l.length ≤ 1099511627776) : DCalls Try.prog G 61 [dIss q, dI e, dI t] H (DRet (dI (chk q e t)) H) := by
  refine dcalls_intro Try.func61 Try.call61 rfl (by kernel_rfl) ?_
  simp (disch := omega) only [go_sem, Nat.reduceEqDiff, Nat.reduceAdd, Nat.reduceMul, Nat.reduceSub, Nat.reduceLeDiff, ↓reduceIte, reduceCtorEq, Int.reduceAdd, Int.reduceSub, Int.reduceMul, Int.reduceNeg, Int.reduceToNat, List.reduceReplicate]
  refine (may_spec G q _ hq hl).mono ?_
  rintro _ _ ⟨rfl, rfl⟩
  cases hm : mayQ q with
  | false =>
    simp (disch := omega) only [go_sem, Nat.reduceEqDiff, Nat.reduceAdd, Nat.reduceMul, Nat.reduceSub, Nat.reduceLeDiff, ↓reduceIte, reduceCtorEq, Int.reduceAdd, Int.reduceSub, Int.reduceMul, Int.reduceNeg, Int.reduceToNat, List.reduceReplicate, hm]
    exact DFin.refl ⟨by simp [chk, hm], rfl⟩
  | true =>
    by_cases c1 : e < 0
    · simp (disch := omega) only [go_sem, Nat.reduceEqDiff, Nat.reduceAdd, Nat.reduceMul, Nat.reduceSub, Nat.reduceLeDiff, ↓reduceIte, reduceCtorEq, Int.reduceAdd, Int.reduceSub, Int.reduceMul, Int.reduceNeg, Int.reduceToNat, List.reduceReplicate, hm]
      exact DFin.refl ⟨by rw [chk, hm, if_pos rfl, if_neg (by omega)], rfl⟩
    by_cases c2 : (q.length : Int) ≤ e
    · simp (disch := omega) only [go_sem, Nat.reduceEqDiff, Nat.reduceAdd, Nat.reduceMul, Nat.reduceSub, Nat.reduceLeDiff, ↓reduceIte, reduceCtorEq, Int.reduceAdd, Int.reduceSub, Int.reduceMul, Int.reduceNeg, Int.reduceToNat, List.reduceReplicate, hm]
      exact DFin.refl ⟨by rw [chk, hm, if_pos rfl, if_neg (by omega)], rfl⟩
    by_cases c3 : t < 0
    · simp (disch := omega) only [go_sem, Nat.reduceEqDiff, Nat.reduceAdd, Nat.reduceMul, Nat.reduceSub, Nat.reduceLeDiff, ↓reduceIte, reduceCtorEq, Int.reduceAdd, Int.reduceSub, Int.reduceMul, Int.reduceNeg, Int.reduceToNat, List.reduceReplicate, hm]
      exact DFin.refl ⟨by rw [chk, hm, if_pos rfl, if_neg (by omega)], rfl⟩
    by_cases c4 : 32 ≤ t
    · simp (disch := omega) only [go_sem, Nat.reduceEqDiff, Nat.reduceAdd, Nat.reduceMul, Nat.reduceSub, Nat.reduceLeDiff, ↓reduceIte, reduceCtorEq, Int.reduceAdd, Int.reduceSub, Int.reduceMul, Int.reduceNeg, Int.reduceToNat, List.reduceReplicate, hm]
      exact DFin.refl ⟨by rw [chk, hm, if_pos rfl, if_neg (by omega)], rfl⟩
    · simp (disch := omega) only [go_sem, Nat.reduceEqDiff, Nat.reduceAdd, Nat.reduceMul, Nat.reduceSub, Nat.reduceLeDiff, ↓reduceIte, reduceCtorEq, Int.reduceAdd, Int.reduceSub, Int.reduceMul, Int.reduceNeg, Int.reduceToNat, List.reduceReplicate, hm]
      exact DFin.refl ⟨by rw [chk, hm, if_pos rfl, if_pos (by omega)], rfl⟩

/-- A slice of n lists that is filled up to l. -/
def FillR (H : DHeap) (n : Nat) (l : List (List Int)) (v : DVal) (heap : DHeap) : Prop :=
  ∃ r, H r = none ∧ v = .oslice 1 r 0 n n ∧ heap = upd H r (some (.cells (l.map dIs ++ List.replicate (n - l.length) .nilSlice) 37))

theorem with_spec (G : Nat → DVal) (q : List (List Int)) (e : Nat) (l : List Int) (H : DHeap) (he : e < q.length) (hq : q.length ≤ 1099511627776) (hl : ∀ l ∈ q, l.length ≤ 1099511627776) :
    DCalls Try.prog G 62 [dIss q, dI e, dIs l] H (DRet (dIss (q.set e l)) H) := by
  refine dcalls_intro Try.func62 Try.call62 rfl (by kernel_rfl) ?_
  simp (disch := omega) only [go_sem, Nat.reduceEqDiff, Nat.reduceAdd, Nat.reduceMul, Nat.reduceSub, Nat.reduceLeDiff, ↓reduceIte, reduceCtorEq, Int.reduceAdd, Int.reduceSub, Int.reduceMul, Int.reduceNeg, Int.reduceToNat, List.reduceReplicate]
  intro r hr; dsimp only at hr
  simp (disch := omega) only [go_sem, Nat.reduceEqDiff, Nat.reduceAdd, Nat.reduceMul, Nat.reduceSub, Nat.reduceLeDiff, ↓reduceIte, reduceCtorEq, Int.reduceAdd, Int.reduceSub, Int.reduceMul, Int.reduceNeg, Int.reduceToNat, List.reduceReplicate]
  obtain ⟨I, hI⟩ : ∃ I : Nat → (Nat → DVal) → DHeap → Prop, ∀ k env heap, I k env heap ↔ (env 0 = dIss q ∧ env 1 = dI e ∧ env 2 = dIs l ∧ env 13 = dI q.length ∧ env 14 = dI k ∧ k ≤ q.length ∧ FillR H q.length (q.take k) (env 7) heap) := ⟨_, fun _ _ _ => Iff.rfl⟩
  refine DLoop.run I (fun k => q.length - k) 0 ((hI _ _ _).2 ?_) ?_
  · simp (disch := omega) only [go_sem, Nat.reduceEqDiff, Nat.reduceAdd, Nat.reduceMul, Nat.reduceSub, Nat.reduceLeDiff, ↓reduceIte, reduceCtorEq, Int.reduceAdd, Int.reduceSub, Int.reduceMul, Int.reduceNeg, Int.reduceToNat, List.reduceReplicate]
    (repeat' apply And.intro) <;> (try first | rfl | assumption | omega)
    exact ⟨r, hr, rfl, by simp⟩
  · intro k env heap hk
    obtain ⟨h0, h1, h2, h13, h14, hk, r, hr, h7, rfl⟩ := (hI _ _ _).1 hk
    by_cases hlt : k < q.length
    · simp (disch := omega) only [go_sem, Nat.reduceEqDiff, Nat.reduceAdd, Nat.reduceMul, Nat.reduceSub, Nat.reduceLeDiff, ↓reduceIte, reduceCtorEq, Int.reduceAdd, Int.reduceSub, Int.reduceMul, Int.reduceNeg, Int.reduceToNat, List.reduceReplicate, h0, h1, h2, h13, h14, h7]
      refine (clone_spec G q[k] _ (hl _ (List.getElem_mem hlt))).mono ?_
      rintro _ _ ⟨rfl, rfl⟩
      simp (disch := omega) only [go_sem, Nat.reduceEqDiff, Nat.reduceAdd, Nat.reduceMul, Nat.reduceSub, Nat.reduceLeDiff, ↓reduceIte, reduceCtorEq, Int.reduceAdd, Int.reduceSub, Int.reduceMul, Int.reduceNeg, Int.reduceToNat, List.reduceReplicate, h0, h1, h2, h13, h14, h7]
      have htl : (q.take k).length = k := by rw [List.length_take]; omega
      refine ⟨by rw [List.length_append, List.length_map, htl, List.length_replicate]; omega, k + 1, _, GhostS.refl _, (hI _ _ _).2 ?_, by omega⟩
      simp (disch := omega) only [go_sem, Nat.reduceEqDiff, Nat.reduceAdd, Nat.reduceMul, Nat.reduceSub, Nat.reduceLeDiff, ↓reduceIte, reduceCtorEq, Int.reduceAdd, Int.reduceSub, Int.reduceMul, Int.reduceNeg, Int.reduceToNat, List.reduceReplicate, h0, h1, h2, h13, h14, h7]
      (repeat' apply And.intro) <;> (try first | rfl | assumption | omega)
      refine ⟨r, hr, rfl, ?_⟩
      have := splice_fill ((q.take k).map dIs) [dIs q[k]] (q.length - k) .nilSlice (by simp; omega)
      rw [List.length_map, htl] at this
      rw [htl, show [DVal.vslice (q[k].map dI) q[k].length] = [dIs q[k]] from rfl, this, List.take_add_one, List.getElem?_eq_getElem hlt, List.map_append, List.length_append, htl]
      rfl
    · simp (disch := omega) only [go_sem, Nat.reduceEqDiff, Nat.reduceAdd, Nat.reduceMul, Nat.reduceSub, Nat.reduceLeDiff, ↓reduceIte, reduceCtorEq, Int.reduceAdd, Int.reduceSub, Int.reduceMul, Int.reduceNeg, Int.reduceToNat, List.reduceReplicate, h0, h1, h2, h13, h14, h7]
      have hkq : k = q.length := by omega
      subst hkq
      simp only [List.take_length, Nat.sub_self, List.replicate_zero, List.append_nil]
      rw [show splice (q.map dIs) e [DVal.vslice (l.map dI) l.length] = _ from splice_set dIs q e l he]
      refine ⟨by simp; omega, OwnA.fin (H := H) (e := 37) (size := 1) (n := q.length) (cs := (q.set e l).map dIs) (.inr ⟨r, hr, by simp, rfl, rfl⟩) ⟨by rw [List.length_set], rfl⟩⟩
end Go.Dl

-- entry: New, Find, Open.
namespace Go.Dl
open Go Go.Proofs
set_option maxRecDepth 10000

theorem clp_mem {e : Nat} {q : List (List Int)} {p : Nat × Int} (h : p ∈ clp e q) : ∃ h : p.1 - e < q.length, e ≤ p.1 ∧ p.2 ∈ q[p.1 - e] := by
  induction q generalizing e with
  | nil => simp [clp] at h
  | cons l q ih =>
    simp only [clp, List.mem_append, List.mem_map] at h
    rcases h with ⟨t, ht, rfl⟩ | h
    · exact ⟨by simp, Nat.le_refl _, by simpa using ht⟩
    · obtain ⟨h1, h2, h3⟩ := ih h
      have e1 : p.1 - e = (p.1 - (e + 1)) + 1 := by omega
      refine ⟨by rw [e1]; simp; exact h1, by omega, ?_⟩
      have : (l :: q)[p.1 - e]'(by rw [e1]; simp; exact h1) = q[p.1 - (e + 1)] := by
        simp only [e1, List.getElem_cons_succ]
      rw [this]; exact h3

/-- The first caller t. -/
def findP (q : List (List Int)) (t : Int) : Option (Nat × Int) := (clp 0 q).find? (fun p => p.2 = t)
def findD (q : List (List Int)) (t : Int) : DVal :=
  if mayQ q then match findP q t with
    | some p => .tuple [dI p.1, dI (idx (q.getD p.1 []) t), .bool true]
    | none => .tuple [dI 0, dI 0, .bool false]
  else .tuple [dI 0, dI 0, .bool false]

theorem find?_step {α : Type} {l : List α} {p : α → Bool} {k : Nat} {x : α} (h : ∀ y ∈ l.take k, p y = false) (hx : l[k]? = some x) (hp : p x = true) : l.find? p = some x := by
  have h1 : k < l.length := (List.getElem?_eq_some_iff.1 hx).1
  have h2 : l[k] = x := (List.getElem?_eq_some_iff.1 hx).2
  rw [List.find?_eq_some_iff_getElem]
  refine ⟨hp, k, h1, h2, fun j hj => ?_⟩
  have := h l[j] (List.mem_take_iff_getElem.2 ⟨j, by omega, rfl⟩)
  simp [this]

theorem find_spec (G : Nat → DVal) (q : List (List Int)) (t : Int) (H : DHeap) (hq : q.length ≤ 1099511627776) (hl : ∀ l ∈ q, l.length ≤ 1099511627776) : DCalls Try.prog G 21 [dIss q, dI t] H (DRet (findD q t) H) := by
  refine dcalls_intro Try.func21 Try.call21 rfl (by kernel_rfl) ?_
  simp (disch := omega) only [go_sem, Nat.reduceEqDiff, Nat.reduceAdd, Nat.reduceMul, Nat.reduceSub, Nat.reduceLeDiff, ↓reduceIte, reduceCtorEq, Int.reduceAdd, Int.reduceSub, Int.reduceMul, Int.reduceNeg, Int.reduceToNat, List.reduceReplicate]
  intro r1 h1; dsimp only at h1
  simp (disch := omega) only [go_sem, Nat.reduceEqDiff, Nat.reduceAdd, Nat.reduceMul, Nat.reduceSub, Nat.reduceLeDiff, ↓reduceIte, reduceCtorEq, Int.reduceAdd, Int.reduceSub, Int.reduceMul, Int.reduceNeg, Int.reduceToNat, List.reduceReplicate]
  intro r2 h2; dsimp only at h2
  simp (disch := omega) only [go_sem, Nat.reduceEqDiff, Nat.reduceAdd, Nat.reduceMul, Nat.reduceSub, Nat.reduceLeDiff, ↓reduceIte, reduceCtorEq, Int.reduceAdd, Int.reduceSub, Int.reduceMul, Int.reduceNeg, Int.reduceToNat, List.reduceReplicate]
  intro r3 h3; dsimp only at h3
  simp (disch := omega) only [go_sem, Nat.reduceEqDiff, Nat.reduceAdd, Nat.reduceMul, Nat.reduceSub, Nat.reduceLeDiff, ↓reduceIte, reduceCtorEq, Int.reduceAdd, Int.reduceSub, Int.reduceMul, Int.reduceNeg, Int.reduceToNat, List.reduceReplicate]
  intro r4 h4; dsimp only at h4
  simp (disch := omega) only [go_sem, Nat.reduceEqDiff, Nat.reduceAdd, Nat.reduceMul, Nat.reduceSub, Nat.reduceLeDiff, ↓reduceIte, reduceCtorEq, Int.reduceAdd, Int.reduceSub, Int.reduceMul, Int.reduceNeg, Int.reduceToNat, List.reduceReplicate]
  intro r5 h5; dsimp only at h5
  simp only [upd_eq_none] at h1 h2 h3 h4 h5
  simp (disch := omega) only [go_sem, Nat.reduceEqDiff, Nat.reduceAdd, Nat.reduceMul, Nat.reduceSub, Nat.reduceLeDiff, ↓reduceIte, reduceCtorEq, Int.reduceAdd, Int.reduceSub, Int.reduceMul, Int.reduceNeg, Int.reduceToNat, List.reduceReplicate, h1, h2, h3, h4, h5]
  obtain ⟨X0, hX, D0, g1, g2, g3, g4, g5⟩ : ∃ X0, upd (upd (upd (upd (upd H r1 (some (.cells [DVal.vslice (q.map dIs) q.length] 22))) r2 (some (.cells [dI t] 3))) r3 (some (.cells [dI 0] 3))) r4 (some (.cells [dI 0] 3))) r5 (some (.cells [.bool false] 4)) = over H X0 ∧
      Disj H X0 ∧ X0 r1 = some (.cells [dIss q] 22) ∧ X0 r2 = some (.cells [dI t] 3) ∧ X0 r3 = some (.cells [dI 0] 3) ∧ X0 r4 = some (.cells [dI 0] 3) ∧ X0 r5 = some (.cells [.bool false] 4) :=
    ⟨upd (upd (upd (upd (upd h0 r1 (some (.cells [dIss q] 22))) r2 (some (.cells [dI t] 3))) r3 (some (.cells [dI 0] 3))) r4 (some (.cells [dI 0] 3))) r5 (some (.cells [.bool false] 4)),
      by simp only [← upd_over, over_h0, dIss], (((((Disj.h0 H).hi h1 _).hi h2.2.2 _).hi h3.2.2.2.2 _).hi h4.2.2.2.2.2.2 _).hi h5.2.2.2.2.2.2.2.2 _, by simp [upd, h2, h3, h4, h5], by simp [upd, h2, h3, h4, h5], by simp [upd, h2, h3, h4, h5], by simp [upd, h2, h3, h4, h5], by simp [upd, h2, h3, h4, h5]⟩
  refine (may_spec G q _ hq hl).mono ?_
  rintro _ _ ⟨rfl, rfl⟩
  rw [hX]
  have o1 := fun Hi => over_x (Hi := Hi) g1
  have o2 := fun Hi => over_x (Hi := Hi) g2
  have o3 := fun Hi => over_x (Hi := Hi) g3
  have o4 := fun Hi => over_x (Hi := Hi) g4
  have o5 := fun Hi => over_x (Hi := Hi) g5
  cases hm : mayQ q with
  | false =>
    simp (disch := omega) only [go_sem, Nat.reduceEqDiff, Nat.reduceAdd, Nat.reduceMul, Nat.reduceSub, Nat.reduceLeDiff, ↓reduceIte, reduceCtorEq, Int.reduceAdd, Int.reduceSub, Int.reduceMul, Int.reduceNeg, Int.reduceToNat, List.reduceReplicate, h1, h2, h3, h4, h5, o1, o2, o3, o4, o5]
    refine DFin.over ((D0.st g3 _).hi (D0 r4 (by simp [g4])) _ |>.hi (D0 r5 (by simp [g5])) _) ⟨?_, rfl⟩
    simp [findD, hm]
  | true =>
    simp (disch := omega) only [go_sem, Nat.reduceEqDiff, Nat.reduceAdd, Nat.reduceMul, Nat.reduceSub, Nat.reduceLeDiff, ↓reduceIte, reduceCtorEq, Int.reduceAdd, Int.reduceSub, Int.reduceMul, Int.reduceNeg, Int.reduceToNat, List.reduceReplicate, h1, h2, h3, h4, h5, o1, o2, o3, o4, o5]
    refine (callers_spec G q _).mono ?_
    rintro _ _ ⟨rfl, rfl⟩
    simp (disch := omega) only [go_sem, Nat.reduceEqDiff, Nat.reduceAdd, Nat.reduceMul, Nat.reduceSub, Nat.reduceLeDiff, ↓reduceIte, reduceCtorEq, Int.reduceAdd, Int.reduceSub, Int.reduceMul, Int.reduceNeg, Int.reduceToNat, List.reduceReplicate]
    refine dwp_range 84 _ (cl 0 q) (callers1_iter G q hq hl) rfl (by kernel_rfl) (cl_len 0 q) H X0 rfl D0
      (fun k X => X = X0 ∧ ∀ p ∈ (clp 0 q).take k, p.2 ≠ t)
      (fun c X => c = .ret ∧ ∃ p, findP q t = some p ∧ X r3 = some (.cells [dI p.1] 3) ∧ X r4 = some (.cells [dI (idx (q.getD p.1 []) t)] 3) ∧ X r5 = some (.cells [.bool true] 4)) ⟨rfl, by simp⟩ ?_ ?_ ?_
    · rintro k x Hi X d1 hx ⟨rfl, hn⟩
      obtain ⟨⟨e, u⟩, hp, rfl⟩ := cl_get hx
      obtain ⟨he, _, hu⟩ := clp_mem (List.mem_of_getElem? hp)
      simp only [Nat.sub_zero] at he hu
      by_cases hut : u = t
      · simp (disch := omega) only [go_sem, Nat.reduceEqDiff, Nat.reduceAdd, Nat.reduceMul, Nat.reduceSub, Nat.reduceLeDiff, ↓reduceIte, reduceCtorEq, Int.reduceAdd, Int.reduceSub, Int.reduceMul, Int.reduceNeg, Int.reduceToNat, List.reduceReplicate, h1, h2, h3, h4, h5, o1, o2, o3, o4, o5, hut]
        refine dwp_draws (by kernel_rfl) (.take 0 (.take 1 (.take 2 (.take 3 (.take 4 (.take 5 (.go 6 [1] (.go 7 [5, 4, 1] (.go 8 [] (.go 9 [] .done)))))))))) (by kernel_rfl) ?_
        simp (disch := omega) only [go_sem, Nat.reduceEqDiff, Nat.reduceAdd, Nat.reduceMul, Nat.reduceSub, Nat.reduceLeDiff, ↓reduceIte, reduceCtorEq, Int.reduceAdd, Int.reduceSub, Int.reduceMul, Int.reduceNeg, Int.reduceToNat, List.reduceReplicate, h1, h2, h3, h4, h5, o1, o2, o3, o4, o5, hut]
        refine (index_spec G q[e] t _ (hl _ (List.getElem_mem he))).mono ?_
        rintro _ _ ⟨rfl, rfl⟩
        simp (disch := omega) only [go_sem, Nat.reduceEqDiff, Nat.reduceAdd, Nat.reduceMul, Nat.reduceSub, Nat.reduceLeDiff, ↓reduceIte, reduceCtorEq, Int.reduceAdd, Int.reduceSub, Int.reduceMul, Int.reduceNeg, Int.reduceToNat, List.reduceReplicate, h1, h2, h3, h4, h5, o1, o2, o3, o4, o5, hut]
        refine ⟨_, rfl, (d1.hi (d1 r3 (by simp [g3])) _ |>.hi (d1 r4 (by simp [g4])) _).hi (d1 r5 (by simp [g5])) _, (e, u), ?_, ?_, ?_, ?_⟩
        · exact find?_step (fun y hy => by simpa using hn y hy) hp (by simp [hut])
        · simp [upd, h2, h3, h4, h5]
        · have : q.getD e [] = q[e] := by simp [he]
          rw [this]
          simp [upd, h2, h3, h4, h5]
        · simp [upd, h2, h3, h4, h5]
      · simp (disch := omega) only [go_sem, Nat.reduceEqDiff, Nat.reduceAdd, Nat.reduceMul, Nat.reduceSub, Nat.reduceLeDiff, ↓reduceIte, reduceCtorEq, Int.reduceAdd, Int.reduceSub, Int.reduceMul, Int.reduceNeg, Int.reduceToNat, List.reduceReplicate, h1, h2, h3, h4, h5, o1, o2, o3, o4, o5, hut]
        refine ⟨_, rfl, d1, rfl, fun p hp' => ?_⟩
        rw [take_succ_get hp] at hp'
        rcases List.mem_append.1 hp' with h | h
        · exact hn p h
        · simp at h; subst h; exact hut
    · rintro X d1 ⟨rfl, hn⟩
      simp (disch := omega) only [go_sem, Nat.reduceEqDiff, Nat.reduceAdd, Nat.reduceMul, Nat.reduceSub, Nat.reduceLeDiff, ↓reduceIte, reduceCtorEq, Int.reduceAdd, Int.reduceSub, Int.reduceMul, Int.reduceNeg, Int.reduceToNat, List.reduceReplicate, h1, h2, h3, h4, h5, o1, o2, o3, o4, o5]
      refine DFin.over ((d1.hi (d1 r3 (by simp [g3])) _ |>.hi (d1 r4 (by simp [g4])) _).hi (d1 r5 (by simp [g5])) _) ⟨?_, rfl⟩
      have hf : findP q t = none := by
        unfold findP
        rw [List.find?_eq_none]
        intro p hp
        have : p ∈ (clp 0 q).take (cl 0 q).length := by rw [cl, List.length_map, List.take_length]; exact hp
        simpa using hn p this
      simp [findD, hm, hf]
    · rintro c X d1 ⟨rfl, p, hp, k3, k4, k5⟩
      have o3 := over_x (Hi := H) k3
      have o4 := over_x (Hi := H) k4
      have o5 := over_x (Hi := H) k5
      simp (disch := omega) only [go_sem, Nat.reduceEqDiff, Nat.reduceAdd, Nat.reduceMul, Nat.reduceSub, Nat.reduceLeDiff, ↓reduceIte, reduceCtorEq, Int.reduceAdd, Int.reduceSub, Int.reduceMul, Int.reduceNeg, Int.reduceToNat, List.reduceReplicate, DJump, o3, o4, o5]
      refine DFin.over d1 ⟨?_, rfl⟩
      simp [findD, hm, hp]

/-- The first open entry with a caller, and that caller. -/
def openP (q : List (List Int)) (o : List Bool) : Option (Nat × Int) := (clp 0 q).find? (fun p => o.getD p.1 false)
def openD (q : List (List Int)) (o : List Bool) : DVal :=
  if mayQ q then match openP q o with
    | some p => .tuple [dI p.1, dI p.2, .bool true]
    | none => .tuple [dI 0, dI 0, .bool false]
  else .tuple [dI 0, dI 0, .bool false]
def dBs (o : List Bool) : DVal := .vslice (o.map .bool) o.length

theorem open_spec (G : Nat → DVal) (q : List (List Int)) (o : List Bool) (H : DHeap) (hq : q.length ≤ 1099511627776) (hl : ∀ l ∈ q, l.length ≤ 1099511627776) (ho : o.length ≤ 1099511627776) : DCalls Try.prog G 25 [dIss q, dBs o] H (DRet (openD q o) H) := by
  refine dcalls_intro Try.func25 Try.call25 rfl (by kernel_rfl) ?_
  simp (disch := omega) only [go_sem, Nat.reduceEqDiff, Nat.reduceAdd, Nat.reduceMul, Nat.reduceSub, Nat.reduceLeDiff, ↓reduceIte, reduceCtorEq, Int.reduceAdd, Int.reduceSub, Int.reduceMul, Int.reduceNeg, Int.reduceToNat, List.reduceReplicate, dBs]
  intro r2 h2; dsimp only at h2
  simp (disch := omega) only [go_sem, Nat.reduceEqDiff, Nat.reduceAdd, Nat.reduceMul, Nat.reduceSub, Nat.reduceLeDiff, ↓reduceIte, reduceCtorEq, Int.reduceAdd, Int.reduceSub, Int.reduceMul, Int.reduceNeg, Int.reduceToNat, List.reduceReplicate]
  intro r3 h3; dsimp only at h3
  simp (disch := omega) only [go_sem, Nat.reduceEqDiff, Nat.reduceAdd, Nat.reduceMul, Nat.reduceSub, Nat.reduceLeDiff, ↓reduceIte, reduceCtorEq, Int.reduceAdd, Int.reduceSub, Int.reduceMul, Int.reduceNeg, Int.reduceToNat, List.reduceReplicate]
  intro r4 h4; dsimp only at h4
  simp (disch := omega) only [go_sem, Nat.reduceEqDiff, Nat.reduceAdd, Nat.reduceMul, Nat.reduceSub, Nat.reduceLeDiff, ↓reduceIte, reduceCtorEq, Int.reduceAdd, Int.reduceSub, Int.reduceMul, Int.reduceNeg, Int.reduceToNat, List.reduceReplicate]
  intro r5 h5; dsimp only at h5
  simp only [upd_eq_none] at h2 h3 h4 h5
  simp (disch := omega) only [go_sem, Nat.reduceEqDiff, Nat.reduceAdd, Nat.reduceMul, Nat.reduceSub, Nat.reduceLeDiff, ↓reduceIte, reduceCtorEq, Int.reduceAdd, Int.reduceSub, Int.reduceMul, Int.reduceNeg, Int.reduceToNat, List.reduceReplicate, h2, h3, h4, h5]
  obtain ⟨X0, hX, D0, g2, g3, g4, g5⟩ : ∃ X0, upd (upd (upd (upd H r2 (some (.cells [DVal.vslice (o.map .bool) o.length] 40))) r3 (some (.cells [dI 0] 3))) r4 (some (.cells [dI 0] 3))) r5 (some (.cells [.bool false] 4)) = over H X0 ∧
      Disj H X0 ∧ X0 r2 = some (.cells [DVal.vslice (o.map .bool) o.length] 40) ∧ X0 r3 = some (.cells [dI 0] 3) ∧ X0 r4 = some (.cells [dI 0] 3) ∧ X0 r5 = some (.cells [.bool false] 4) :=
    ⟨upd (upd (upd (upd h0 r2 (some (.cells [DVal.vslice (o.map .bool) o.length] 40))) r3 (some (.cells [dI 0] 3))) r4 (some (.cells [dI 0] 3))) r5 (some (.cells [.bool false] 4)),
      by simp only [← upd_over, over_h0], ((((Disj.h0 H).hi h2 _).hi h3.2.2 _).hi h4.2.2.2.2 _).hi h5.2.2.2.2.2.2 _, by simp [upd, h3, h4, h5], by simp [upd, h3, h4, h5], by simp [upd, h3, h4, h5], by simp [upd, h3, h4, h5]⟩
  refine (may_spec G q _ hq hl).mono ?_
  rintro _ _ ⟨rfl, rfl⟩
  rw [hX]
  have o2 := fun Hi => over_x (Hi := Hi) g2
  have o3 := fun Hi => over_x (Hi := Hi) g3
  have o4 := fun Hi => over_x (Hi := Hi) g4
  have o5 := fun Hi => over_x (Hi := Hi) g5
  cases hm : mayQ q with
  | false =>
    simp (disch := omega) only [go_sem, Nat.reduceEqDiff, Nat.reduceAdd, Nat.reduceMul, Nat.reduceSub, Nat.reduceLeDiff, ↓reduceIte, reduceCtorEq, Int.reduceAdd, Int.reduceSub, Int.reduceMul, Int.reduceNeg, Int.reduceToNat, List.reduceReplicate, h3, h4, h5, o2, o3, o4, o5]
    refine DFin.over ((D0.st g3 _).hi (D0 r4 (by simp [g4])) _ |>.hi (D0 r5 (by simp [g5])) _) ⟨?_, rfl⟩
    simp [openD, hm]
  | true =>
    simp (disch := omega) only [go_sem, Nat.reduceEqDiff, Nat.reduceAdd, Nat.reduceMul, Nat.reduceSub, Nat.reduceLeDiff, ↓reduceIte, reduceCtorEq, Int.reduceAdd, Int.reduceSub, Int.reduceMul, Int.reduceNeg, Int.reduceToNat, List.reduceReplicate, h3, h4, h5, o2, o3, o4, o5]
    refine (callers_spec G q _).mono ?_
    rintro _ _ ⟨rfl, rfl⟩
    simp (disch := omega) only [go_sem, Nat.reduceEqDiff, Nat.reduceAdd, Nat.reduceMul, Nat.reduceSub, Nat.reduceLeDiff, ↓reduceIte, reduceCtorEq, Int.reduceAdd, Int.reduceSub, Int.reduceMul, Int.reduceNeg, Int.reduceToNat, List.reduceReplicate]
    refine dwp_range 84 _ (cl 0 q) (callers1_iter G q hq hl) rfl (by kernel_rfl) (cl_len 0 q) H X0 rfl D0
      (fun k X => X = X0 ∧ ∀ p ∈ (clp 0 q).take k, o.getD p.1 false = false)
      (fun c X => c = .ret ∧ ∃ p, openP q o = some p ∧ X r3 = some (.cells [dI p.1] 3) ∧ X r4 = some (.cells [dI p.2] 3) ∧ X r5 = some (.cells [.bool true] 4)) ⟨rfl, by simp⟩ ?_ ?_ ?_
    · rintro k x Hi X d1 hx ⟨rfl, hn⟩
      obtain ⟨⟨e, u⟩, hp, rfl⟩ := cl_get hx
      have stay : o.getD e false = false → ∀ p ∈ (clp 0 q).take (k + 1), o.getD p.1 false = false := fun h0 p hp' => by
        rw [take_succ_get hp] at hp'
        rcases List.mem_append.1 hp' with h | h
        · exact hn p h
        · simp only [List.mem_singleton] at h; subst h; exact h0
      by_cases he : e < o.length
      · have hge : o.getD e false = o[e] := by simp [he]
        cases hut : o[e] with
        | true =>
          simp (disch := omega) only [go_sem, Nat.reduceEqDiff, Nat.reduceAdd, Nat.reduceMul, Nat.reduceSub, Nat.reduceLeDiff, ↓reduceIte, reduceCtorEq, Int.reduceAdd, Int.reduceSub, Int.reduceMul, Int.reduceNeg, Int.reduceToNat, List.reduceReplicate, h3, h4, h5, o2, o3, o4, o5, hut]
          refine ⟨_, rfl, (d1.hi (d1 r3 (by simp [g3])) _ |>.hi (d1 r4 (by simp [g4])) _).hi (d1 r5 (by simp [g5])) _, (e, u), ?_, ?_, ?_, ?_⟩
          · exact find?_step hn hp (by rw [hge, hut])
          · simp [upd, h3, h4, h5]
          · simp [upd, h3, h4, h5]
          · simp [upd, h3, h4, h5]
        | false =>
          simp (disch := omega) only [go_sem, Nat.reduceEqDiff, Nat.reduceAdd, Nat.reduceMul, Nat.reduceSub, Nat.reduceLeDiff, ↓reduceIte, reduceCtorEq, Int.reduceAdd, Int.reduceSub, Int.reduceMul, Int.reduceNeg, Int.reduceToNat, List.reduceReplicate, h3, h4, h5, o2, o3, o4, o5, hut]
          exact ⟨_, rfl, d1, rfl, stay (by rw [hge, hut])⟩
      · have hge : o.getD e false = false := by simp [he]
        simp (disch := omega) only [go_sem, Nat.reduceEqDiff, Nat.reduceAdd, Nat.reduceMul, Nat.reduceSub, Nat.reduceLeDiff, ↓reduceIte, reduceCtorEq, Int.reduceAdd, Int.reduceSub, Int.reduceMul, Int.reduceNeg, Int.reduceToNat, List.reduceReplicate, h3, h4, h5, o2, o3, o4, o5]
        exact ⟨_, rfl, d1, rfl, stay hge⟩
    · rintro X d1 ⟨rfl, hn⟩
      simp (disch := omega) only [go_sem, Nat.reduceEqDiff, Nat.reduceAdd, Nat.reduceMul, Nat.reduceSub, Nat.reduceLeDiff, ↓reduceIte, reduceCtorEq, Int.reduceAdd, Int.reduceSub, Int.reduceMul, Int.reduceNeg, Int.reduceToNat, List.reduceReplicate, h3, h4, h5, o2, o3, o4, o5]
      refine DFin.over ((d1.hi (d1 r3 (by simp [g3])) _ |>.hi (d1 r4 (by simp [g4])) _).hi (d1 r5 (by simp [g5])) _) ⟨?_, rfl⟩
      have hf : openP q o = none := by
        unfold openP
        rw [List.find?_eq_none]
        intro p hp
        have : p ∈ (clp 0 q).take (cl 0 q).length := by rw [cl, List.length_map, List.take_length]; exact hp
        rw [hn p this]; simp
      simp [openD, hm, hf]
    · rintro c X d1 ⟨rfl, p, hp, k3, k4, k5⟩
      have o3 := over_x (Hi := H) k3
      have o4 := over_x (Hi := H) k4
      have o5 := over_x (Hi := H) k5
      simp (disch := omega) only [go_sem, Nat.reduceEqDiff, Nat.reduceAdd, Nat.reduceMul, Nat.reduceSub, Nat.reduceLeDiff, ↓reduceIte, reduceCtorEq, Int.reduceAdd, Int.reduceSub, Int.reduceMul, Int.reduceNeg, Int.reduceToNat, List.reduceReplicate, DJump, o3, o4, o5]
      refine DFin.over d1 ⟨?_, rfl⟩
      simp [openD, hm, hp]

def newD (n : Int) : DVal := if 0 ≤ n ∧ n ≤ 8 then .tuple [dIss (List.replicate n.toNat []), dI 0] else .tuple [.nilSlice, dI 4]
theorem new_spec (G : Nat → DVal) (n : Int) (H : DHeap) : DCalls Try.prog G 19 [dI n] H (DRet (newD n) H) := by
  refine dcalls_intro Try.func19 Try.call19 rfl (by kernel_rfl) ?_
  by_cases c1 : n < 0
  · simp (disch := omega) only [go_sem, Nat.reduceEqDiff, Nat.reduceAdd, Nat.reduceMul, Nat.reduceSub, Nat.reduceLeDiff, ↓reduceIte, reduceCtorEq, Int.reduceAdd, Int.reduceSub, Int.reduceMul, Int.reduceNeg, Int.reduceToNat, List.reduceReplicate]
    exact DFin.refl ⟨by rw [newD, if_neg (by omega)], rfl⟩
  by_cases c2 : n > 8
  · simp (disch := omega) only [go_sem, Nat.reduceEqDiff, Nat.reduceAdd, Nat.reduceMul, Nat.reduceSub, Nat.reduceLeDiff, ↓reduceIte, reduceCtorEq, Int.reduceAdd, Int.reduceSub, Int.reduceMul, Int.reduceNeg, Int.reduceToNat, List.reduceReplicate]
    exact DFin.refl ⟨by rw [newD, if_neg (by omega)], rfl⟩
  · simp (disch := omega) only [go_sem, Nat.reduceEqDiff, Nat.reduceAdd, Nat.reduceMul, Nat.reduceSub, Nat.reduceLeDiff, ↓reduceIte, reduceCtorEq, Int.reduceAdd, Int.reduceSub, Int.reduceMul, Int.reduceNeg, Int.reduceToNat, List.reduceReplicate]
    intro r hr; dsimp only at hr
    simp (disch := omega) only [go_sem, Nat.reduceEqDiff, Nat.reduceAdd, Nat.reduceMul, Nat.reduceSub, Nat.reduceLeDiff, ↓reduceIte, reduceCtorEq, Int.reduceAdd, Int.reduceSub, Int.reduceMul, Int.reduceNeg, Int.reduceToNat, List.reduceReplicate]
    refine DFin.fz r (upd_same _ _ _) ?_
    have hn : fzs r [] (List.replicate n.toNat DVal.nilSlice) = List.replicate n.toNat DVal.nilSlice := by
      induction n.toNat with
      | zero => simp [fzs]
      | succ k ih => simp [List.replicate_succ, fzs, ih, fz]
    have ht : (List.replicate n.toNat DVal.nilSlice).take n.toNat = List.replicate n.toNat DVal.nilSlice := by simp
    simp (disch := omega) only [go_sem, Nat.reduceEqDiff, Nat.reduceAdd, Nat.reduceMul, Nat.reduceSub, Nat.reduceLeDiff, ↓reduceIte, reduceCtorEq, Int.reduceAdd, Int.reduceSub, Int.reduceMul, Int.reduceNeg, Int.reduceToNat, List.reduceReplicate, upd_undo hr, ht]
    refine DFin.le (DLe.tuple (.cons (DLe.vslice _ (DLes.nils _)) (.refl _))) (DFin.refl ⟨?_, rfl⟩)
    rw [newD, if_pos (by omega), dIss, List.map_replicate, List.length_replicate]
    rfl
end Go.Dl
