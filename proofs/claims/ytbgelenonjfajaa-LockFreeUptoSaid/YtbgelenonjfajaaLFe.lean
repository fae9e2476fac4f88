/- The data level and the contracts of the functions that are reached (part 5). -/
import Derived.Test.YtbgelenonjfajaaProg
import Derived.KernelRfl
import Derived.Test.YtbgelenonjfajaaLFd
set_option linter.unusedSimpArgs false
set_option linter.unusedVariables false
-- Facts on the types of this seat, each by the kernel. MADE BY PROGRAM (facts.py).
namespace Go.Dl
open Go Go.Proofs
theorem cells_0 : Try.prog.cellsOf 0 = 1 := by kernel_rfl
theorem bytes_0 : Try.prog.bytesOf 0 = 0 := by kernel_rfl
theorem info_0 : (Try.prog.info? 0).isSome = true := by kernel_rfl
theorem agg_0 : aggB Try.prog 0 = some false := by kernel_rfl
theorem zero_0 : zeroOf Try.prog 0 = some (.tuple []) := by kernel_rfl
theorem cells_1 : Try.prog.cellsOf 1 = 1 := by kernel_rfl
theorem bytes_1 : Try.prog.bytesOf 1 = 8 := by kernel_rfl
theorem info_1 : (Try.prog.info? 1).isSome = true := by kernel_rfl
theorem agg_1 : aggB Try.prog 1 = some false := by kernel_rfl
theorem zero_1 : zeroOf Try.prog 1 = some (.nilFunc) := by kernel_rfl
theorem cells_2 : Try.prog.cellsOf 2 = 1 := by kernel_rfl
theorem bytes_2 : Try.prog.bytesOf 2 = 8 := by kernel_rfl
theorem info_2 : (Try.prog.info? 2).isSome = true := by kernel_rfl
theorem agg_2 : aggB Try.prog 2 = some false := by kernel_rfl
theorem zero_2 : zeroOf Try.prog 2 = some (.int .i64 0) := by kernel_rfl
theorem cells_3 : Try.prog.cellsOf 3 = 1 := by kernel_rfl
theorem bytes_3 : Try.prog.bytesOf 3 = 8 := by kernel_rfl
theorem info_3 : (Try.prog.info? 3).isSome = true := by kernel_rfl
theorem agg_3 : aggB Try.prog 3 = some false := by kernel_rfl
theorem zero_3 : zeroOf Try.prog 3 = some (.int .i64 0) := by kernel_rfl
theorem cells_4 : Try.prog.cellsOf 4 = 1 := by kernel_rfl
theorem bytes_4 : Try.prog.bytesOf 4 = 1 := by kernel_rfl
theorem info_4 : (Try.prog.info? 4).isSome = true := by kernel_rfl
theorem agg_4 : aggB Try.prog 4 = some false := by kernel_rfl
theorem zero_4 : zeroOf Try.prog 4 = some (.bool false) := by kernel_rfl
theorem cells_5 : Try.prog.cellsOf 5 = 1 := by kernel_rfl
theorem bytes_5 : Try.prog.bytesOf 5 = 1 := by kernel_rfl
theorem info_5 : (Try.prog.info? 5).isSome = true := by kernel_rfl
theorem agg_5 : aggB Try.prog 5 = some false := by kernel_rfl
theorem zero_5 : zeroOf Try.prog 5 = some (.int .u8 0) := by kernel_rfl
theorem cells_6 : Try.prog.cellsOf 6 = 1 := by kernel_rfl
theorem bytes_6 : Try.prog.bytesOf 6 = 1 := by kernel_rfl
theorem info_6 : (Try.prog.info? 6).isSome = true := by kernel_rfl
theorem agg_6 : aggB Try.prog 6 = some false := by kernel_rfl
theorem zero_6 : zeroOf Try.prog 6 = some (.int .u8 0) := by kernel_rfl
theorem cells_7 : Try.prog.cellsOf 7 = 4 := by kernel_rfl
theorem bytes_7 : Try.prog.bytesOf 7 = 24 := by kernel_rfl
theorem info_7 : (Try.prog.info? 7).isSome = true := by kernel_rfl
theorem agg_7 : aggB Try.prog 7 = some true := by kernel_rfl
theorem bok_7 : buildOk Try.prog 7 = true := by kernel_rfl
theorem zero_7 : zeroOf Try.prog 7 = some (.agg [.int .i64 0, .int .i64 0, .bool false, .int .u8 0]) := by kernel_rfl
theorem cells_8 : Try.prog.cellsOf 8 = 4 := by kernel_rfl
theorem bytes_8 : Try.prog.bytesOf 8 = 24 := by kernel_rfl
theorem info_8 : (Try.prog.info? 8).isSome = true := by kernel_rfl
theorem agg_8 : aggB Try.prog 8 = some true := by kernel_rfl
theorem bok_8 : buildOk Try.prog 8 = true := by kernel_rfl
theorem zero_8 : zeroOf Try.prog 8 = some (.agg [.int .i64 0, .int .i64 0, .bool false, .int .u8 0]) := by kernel_rfl
theorem cells_9 : Try.prog.cellsOf 9 = 1 := by kernel_rfl
theorem bytes_9 : Try.prog.bytesOf 9 = 16 := by kernel_rfl
theorem info_9 : (Try.prog.info? 9).isSome = true := by kernel_rfl
theorem agg_9 : aggB Try.prog 9 = some false := by kernel_rfl
theorem zero_9 : zeroOf Try.prog 9 = some (.str []) := by kernel_rfl
theorem cells_10 : Try.prog.cellsOf 10 = 1 := by kernel_rfl
theorem bytes_10 : Try.prog.bytesOf 10 = 16 := by kernel_rfl
theorem info_10 : (Try.prog.info? 10).isSome = true := by kernel_rfl
theorem agg_10 : aggB Try.prog 10 = some false := by kernel_rfl
theorem zero_10 : zeroOf Try.prog 10 = some (.str []) := by kernel_rfl
theorem cells_11 : Try.prog.cellsOf 11 = 1 := by kernel_rfl
theorem bytes_11 : Try.prog.bytesOf 11 = 16 := by kernel_rfl
theorem info_11 : (Try.prog.info? 11).isSome = true := by kernel_rfl
theorem agg_11 : aggB Try.prog 11 = some false := by kernel_rfl
theorem zero_11 : zeroOf Try.prog 11 = some (.str []) := by kernel_rfl
theorem cells_12 : Try.prog.cellsOf 12 = 1 := by kernel_rfl
theorem bytes_12 : Try.prog.bytesOf 12 = 8 := by kernel_rfl
theorem info_12 : (Try.prog.info? 12).isSome = true := by kernel_rfl
theorem agg_12 : aggB Try.prog 12 = some false := by kernel_rfl
theorem zero_12 : zeroOf Try.prog 12 = some (.int .u64 0) := by kernel_rfl
theorem cells_13 : Try.prog.cellsOf 13 = 2 := by kernel_rfl
theorem bytes_13 : Try.prog.bytesOf 13 = 24 := by kernel_rfl
theorem info_13 : (Try.prog.info? 13).isSome = true := by kernel_rfl
theorem agg_13 : aggB Try.prog 13 = some true := by kernel_rfl
theorem bok_13 : buildOk Try.prog 13 = true := by kernel_rfl
theorem zero_13 : zeroOf Try.prog 13 = some (.agg [.str [], .int .u64 0]) := by kernel_rfl
theorem cells_14 : Try.prog.cellsOf 14 = 2 := by kernel_rfl
theorem bytes_14 : Try.prog.bytesOf 14 = 24 := by kernel_rfl
theorem info_14 : (Try.prog.info? 14).isSome = true := by kernel_rfl
theorem agg_14 : aggB Try.prog 14 = some true := by kernel_rfl
theorem bok_14 : buildOk Try.prog 14 = true := by kernel_rfl
theorem zero_14 : zeroOf Try.prog 14 = some (.agg [.str [], .int .u64 0]) := by kernel_rfl
theorem cells_15 : Try.prog.cellsOf 15 = 1 := by kernel_rfl
theorem bytes_15 : Try.prog.bytesOf 15 = 8 := by kernel_rfl
theorem info_15 : (Try.prog.info? 15).isSome = true := by kernel_rfl
theorem agg_15 : aggB Try.prog 15 = some false := by kernel_rfl
theorem zero_15 : zeroOf Try.prog 15 = some (.nilPtr) := by kernel_rfl
theorem cells_16 : Try.prog.cellsOf 16 = 1 := by kernel_rfl
theorem bytes_16 : Try.prog.bytesOf 16 = 8 := by kernel_rfl
theorem info_16 : (Try.prog.info? 16).isSome = true := by kernel_rfl
theorem agg_16 : aggB Try.prog 16 = some false := by kernel_rfl
theorem zero_16 : zeroOf Try.prog 16 = some (.nilPtr) := by kernel_rfl
theorem cells_17 : Try.prog.cellsOf 17 = 1 := by kernel_rfl
theorem bytes_17 : Try.prog.bytesOf 17 = 8 := by kernel_rfl
theorem info_17 : (Try.prog.info? 17).isSome = true := by kernel_rfl
theorem agg_17 : aggB Try.prog 17 = some false := by kernel_rfl
theorem zero_17 : zeroOf Try.prog 17 = some (.nilPtr) := by kernel_rfl
theorem cells_18 : Try.prog.cellsOf 18 = 1 := by kernel_rfl
theorem bytes_18 : Try.prog.bytesOf 18 = 8 := by kernel_rfl
theorem info_18 : (Try.prog.info? 18).isSome = true := by kernel_rfl
theorem agg_18 : aggB Try.prog 18 = some true := by kernel_rfl
theorem bok_18 : buildOk Try.prog 18 = true := by kernel_rfl
theorem zero_18 : zeroOf Try.prog 18 = some (.agg [.nilPtr]) := by kernel_rfl
theorem cells_19 : Try.prog.cellsOf 19 = 1 := by kernel_rfl
theorem bytes_19 : Try.prog.bytesOf 19 = 8 := by kernel_rfl
theorem info_19 : (Try.prog.info? 19).isSome = true := by kernel_rfl
theorem agg_19 : aggB Try.prog 19 = some true := by kernel_rfl
theorem bok_19 : buildOk Try.prog 19 = true := by kernel_rfl
theorem zero_19 : zeroOf Try.prog 19 = some (.agg [.nilPtr]) := by kernel_rfl
theorem cells_20 : Try.prog.cellsOf 20 = 1 := by kernel_rfl
theorem bytes_20 : Try.prog.bytesOf 20 = 16 := by kernel_rfl
theorem info_20 : (Try.prog.info? 20).isSome = true := by kernel_rfl
theorem agg_20 : aggB Try.prog 20 = some false := by kernel_rfl
theorem zero_20 : zeroOf Try.prog 20 = some (.nilIface) := by kernel_rfl
theorem cells_21 : Try.prog.cellsOf 21 = 1 := by kernel_rfl
theorem bytes_21 : Try.prog.bytesOf 21 = 4 := by kernel_rfl
theorem info_21 : (Try.prog.info? 21).isSome = true := by kernel_rfl
theorem agg_21 : aggB Try.prog 21 = some false := by kernel_rfl
theorem zero_21 : zeroOf Try.prog 21 = some (.int .i32 0) := by kernel_rfl
theorem cells_22 : Try.prog.cellsOf 22 = 1 := by kernel_rfl
theorem bytes_22 : Try.prog.bytesOf 22 = 24 := by kernel_rfl
theorem info_22 : (Try.prog.info? 22).isSome = true := by kernel_rfl
theorem agg_22 : aggB Try.prog 22 = some false := by kernel_rfl
theorem zero_22 : zeroOf Try.prog 22 = some (.nilSlice) := by kernel_rfl
theorem cells_23 : Try.prog.cellsOf 23 = 1 := by kernel_rfl
theorem bytes_23 : Try.prog.bytesOf 23 = 24 := by kernel_rfl
theorem info_23 : (Try.prog.info? 23).isSome = true := by kernel_rfl
theorem agg_23 : aggB Try.prog 23 = some false := by kernel_rfl
theorem zero_23 : zeroOf Try.prog 23 = some (.nilSlice) := by kernel_rfl
theorem cells_24 : Try.prog.cellsOf 24 = 1 := by kernel_rfl
theorem bytes_24 : Try.prog.bytesOf 24 = 8 := by kernel_rfl
theorem info_24 : (Try.prog.info? 24).isSome = true := by kernel_rfl
theorem agg_24 : aggB Try.prog 24 = some false := by kernel_rfl
theorem zero_24 : zeroOf Try.prog 24 = some (.nilFunc) := by kernel_rfl
theorem cells_25 : Try.prog.cellsOf 25 = 1 := by kernel_rfl
theorem bytes_25 : Try.prog.bytesOf 25 = 8 := by kernel_rfl
theorem info_25 : (Try.prog.info? 25).isSome = true := by kernel_rfl
theorem agg_25 : aggB Try.prog 25 = some false := by kernel_rfl
theorem zero_25 : zeroOf Try.prog 25 = some (.nilPtr) := by kernel_rfl
theorem cells_26 : Try.prog.cellsOf 26 = 1 := by kernel_rfl
theorem bytes_26 : Try.prog.bytesOf 26 = 24 := by kernel_rfl
theorem info_26 : (Try.prog.info? 26).isSome = true := by kernel_rfl
theorem agg_26 : aggB Try.prog 26 = some false := by kernel_rfl
theorem zero_26 : zeroOf Try.prog 26 = some (.nilSlice) := by kernel_rfl
theorem cells_27 : Try.prog.cellsOf 27 = 1 := by kernel_rfl
theorem bytes_27 : Try.prog.bytesOf 27 = 24 := by kernel_rfl
theorem info_27 : (Try.prog.info? 27).isSome = true := by kernel_rfl
theorem agg_27 : aggB Try.prog 27 = some false := by kernel_rfl
theorem zero_27 : zeroOf Try.prog 27 = some (.nilSlice) := by kernel_rfl
theorem cells_28 : Try.prog.cellsOf 28 = 32 := by kernel_rfl
theorem bytes_28 : Try.prog.bytesOf 28 = 768 := by kernel_rfl
theorem info_28 : (Try.prog.info? 28).isSome = true := by kernel_rfl
theorem agg_28 : aggB Try.prog 28 = some true := by kernel_rfl
theorem bok_28 : buildOk Try.prog 28 = true := by kernel_rfl
theorem zero_28 : zeroOf Try.prog 28 = some (.agg [.nilSlice, .nilSlice, .nilSlice, .nilSlice, .nilSlice, .nilSlice, .nilSlice, .nilSlice, .nilSlice, .nilSlice, .nilSlice, .nilSlice, .nilSlice, .nilSlice, .nilSlice, .nilSlice, .nilSlice, .nilSlice, .nilSlice, .nilSlice, .nilSlice, .nilSlice, .nilSlice, .nilSlice, .nilSlice, .nilSlice, .nilSlice, .nilSlice, .nilSlice, .nilSlice, .nilSlice, .nilSlice]) := by kernel_rfl
theorem cells_29 : Try.prog.cellsOf 29 = 1 := by kernel_rfl
theorem bytes_29 : Try.prog.bytesOf 29 = 24 := by kernel_rfl
theorem info_29 : (Try.prog.info? 29).isSome = true := by kernel_rfl
theorem agg_29 : aggB Try.prog 29 = some false := by kernel_rfl
theorem zero_29 : zeroOf Try.prog 29 = some (.nilSlice) := by kernel_rfl
theorem cells_30 : Try.prog.cellsOf 30 = 1 := by kernel_rfl
theorem bytes_30 : Try.prog.bytesOf 30 = 24 := by kernel_rfl
theorem info_30 : (Try.prog.info? 30).isSome = true := by kernel_rfl
theorem agg_30 : aggB Try.prog 30 = some false := by kernel_rfl
theorem zero_30 : zeroOf Try.prog 30 = some (.nilSlice) := by kernel_rfl
theorem cells_31 : Try.prog.cellsOf 31 = 38 := by kernel_rfl
theorem bytes_31 : Try.prog.bytesOf 31 = 912 := by kernel_rfl
theorem info_31 : (Try.prog.info? 31).isSome = true := by kernel_rfl
theorem agg_31 : aggB Try.prog 31 = some true := by kernel_rfl
theorem bok_31 : buildOk Try.prog 31 = true := by kernel_rfl
theorem zero_31 : zeroOf Try.prog 31 = some (.agg [.nilSlice, .nilSlice, .nilSlice, .nilSlice, .nilSlice, .nilSlice, .nilSlice, .nilSlice, .nilSlice, .nilSlice, .nilSlice, .nilSlice, .nilSlice, .nilSlice, .nilSlice, .nilSlice, .nilSlice, .nilSlice, .nilSlice, .nilSlice, .nilSlice, .nilSlice, .nilSlice, .nilSlice, .nilSlice, .nilSlice, .nilSlice, .nilSlice, .nilSlice, .nilSlice, .nilSlice, .nilSlice, .nilSlice, .nilSlice, .nilSlice, .nilSlice, .nilSlice, .nilSlice]) := by kernel_rfl
theorem cells_32 : Try.prog.cellsOf 32 = 38 := by kernel_rfl
theorem bytes_32 : Try.prog.bytesOf 32 = 912 := by kernel_rfl
theorem info_32 : (Try.prog.info? 32).isSome = true := by kernel_rfl
theorem agg_32 : aggB Try.prog 32 = some true := by kernel_rfl
theorem bok_32 : buildOk Try.prog 32 = true := by kernel_rfl
theorem zero_32 : zeroOf Try.prog 32 = some (.agg [.nilSlice, .nilSlice, .nilSlice, .nilSlice, .nilSlice, .nilSlice, .nilSlice, .nilSlice, .nilSlice, .nilSlice, .nilSlice, .nilSlice, .nilSlice, .nilSlice, .nilSlice, .nilSlice, .nilSlice, .nilSlice, .nilSlice, .nilSlice, .nilSlice, .nilSlice, .nilSlice, .nilSlice, .nilSlice, .nilSlice, .nilSlice, .nilSlice, .nilSlice, .nilSlice, .nilSlice, .nilSlice, .nilSlice, .nilSlice, .nilSlice, .nilSlice, .nilSlice, .nilSlice]) := by kernel_rfl
theorem cells_33 : Try.prog.cellsOf 33 = 1 := by kernel_rfl
theorem bytes_33 : Try.prog.bytesOf 33 = 8 := by kernel_rfl
theorem info_33 : (Try.prog.info? 33).isSome = true := by kernel_rfl
theorem agg_33 : aggB Try.prog 33 = some false := by kernel_rfl
theorem zero_33 : zeroOf Try.prog 33 = some (.nilFunc) := by kernel_rfl
theorem cells_34 : Try.prog.cellsOf 34 = 1 := by kernel_rfl
theorem bytes_34 : Try.prog.bytesOf 34 = 8 := by kernel_rfl
theorem info_34 : (Try.prog.info? 34).isSome = true := by kernel_rfl
theorem agg_34 : aggB Try.prog 34 = some false := by kernel_rfl
theorem zero_34 : zeroOf Try.prog 34 = some (.int .u64 0) := by kernel_rfl
theorem cells_35 : Try.prog.cellsOf 35 = 3 := by kernel_rfl
theorem bytes_35 : Try.prog.bytesOf 35 = 40 := by kernel_rfl
theorem info_35 : (Try.prog.info? 35).isSome = true := by kernel_rfl
theorem agg_35 : aggB Try.prog 35 = some true := by kernel_rfl
theorem bok_35 : buildOk Try.prog 35 = true := by kernel_rfl
theorem zero_35 : zeroOf Try.prog 35 = some (.agg [.bool false, .int .i64 0, .nilSlice]) := by kernel_rfl
theorem cells_36 : Try.prog.cellsOf 36 = 3 := by kernel_rfl
theorem bytes_36 : Try.prog.bytesOf 36 = 40 := by kernel_rfl
theorem info_36 : (Try.prog.info? 36).isSome = true := by kernel_rfl
theorem agg_36 : aggB Try.prog 36 = some true := by kernel_rfl
theorem bok_36 : buildOk Try.prog 36 = true := by kernel_rfl
theorem zero_36 : zeroOf Try.prog 36 = some (.agg [.bool false, .int .i64 0, .nilSlice]) := by kernel_rfl
theorem cells_37 : Try.prog.cellsOf 37 = 1 := by kernel_rfl
theorem bytes_37 : Try.prog.bytesOf 37 = 8 := by kernel_rfl
theorem info_37 : (Try.prog.info? 37).isSome = true := by kernel_rfl
theorem agg_37 : aggB Try.prog 37 = some false := by kernel_rfl
theorem zero_37 : zeroOf Try.prog 37 = some (.int .i64 0) := by kernel_rfl
theorem cells_38 : Try.prog.cellsOf 38 = 1 := by kernel_rfl
theorem bytes_38 : Try.prog.bytesOf 38 = 0 := by kernel_rfl
theorem info_38 : (Try.prog.info? 38).isSome = true := by kernel_rfl
theorem agg_38 : aggB Try.prog 38 = some false := by kernel_rfl
theorem zero_38 : zeroOf Try.prog 38 = some (.tuple [.agg [.bool false, .int .i64 0, .nilSlice], .int .i64 0]) := by kernel_rfl
theorem cells_39 : Try.prog.cellsOf 39 = 1 := by kernel_rfl
theorem bytes_39 : Try.prog.bytesOf 39 = 8 := by kernel_rfl
theorem info_39 : (Try.prog.info? 39).isSome = true := by kernel_rfl
theorem agg_39 : aggB Try.prog 39 = some false := by kernel_rfl
theorem zero_39 : zeroOf Try.prog 39 = some (.nilFunc) := by kernel_rfl
theorem cells_40 : Try.prog.cellsOf 40 = 1 := by kernel_rfl
theorem bytes_40 : Try.prog.bytesOf 40 = 2 := by kernel_rfl
theorem info_40 : (Try.prog.info? 40).isSome = true := by kernel_rfl
theorem agg_40 : aggB Try.prog 40 = some false := by kernel_rfl
theorem zero_40 : zeroOf Try.prog 40 = some (.int .u16 0) := by kernel_rfl
theorem cells_41 : Try.prog.cellsOf 41 = 1 := by kernel_rfl
theorem bytes_41 : Try.prog.bytesOf 41 = 8 := by kernel_rfl
theorem info_41 : (Try.prog.info? 41).isSome = true := by kernel_rfl
theorem agg_41 : aggB Try.prog 41 = some false := by kernel_rfl
theorem zero_41 : zeroOf Try.prog 41 = some (.nilFunc) := by kernel_rfl
theorem cells_42 : Try.prog.cellsOf 42 = 1 := by kernel_rfl
theorem bytes_42 : Try.prog.bytesOf 42 = 8 := by kernel_rfl
theorem info_42 : (Try.prog.info? 42).isSome = true := by kernel_rfl
theorem agg_42 : aggB Try.prog 42 = some false := by kernel_rfl
theorem zero_42 : zeroOf Try.prog 42 = some (.nilFunc) := by kernel_rfl
theorem cells_43 : Try.prog.cellsOf 43 = 1 := by kernel_rfl
theorem bytes_43 : Try.prog.bytesOf 43 = 24 := by kernel_rfl
theorem info_43 : (Try.prog.info? 43).isSome = true := by kernel_rfl
theorem agg_43 : aggB Try.prog 43 = some false := by kernel_rfl
theorem zero_43 : zeroOf Try.prog 43 = some (.nilSlice) := by kernel_rfl
theorem cells_44 : Try.prog.cellsOf 44 = 1 := by kernel_rfl
theorem bytes_44 : Try.prog.bytesOf 44 = 8 := by kernel_rfl
theorem info_44 : (Try.prog.info? 44).isSome = true := by kernel_rfl
theorem agg_44 : aggB Try.prog 44 = some false := by kernel_rfl
theorem zero_44 : zeroOf Try.prog 44 = some (.nilFunc) := by kernel_rfl
theorem cells_45 : Try.prog.cellsOf 45 = 1 := by kernel_rfl
theorem bytes_45 : Try.prog.bytesOf 45 = 8 := by kernel_rfl
theorem info_45 : (Try.prog.info? 45).isSome = true := by kernel_rfl
theorem agg_45 : aggB Try.prog 45 = some false := by kernel_rfl
theorem zero_45 : zeroOf Try.prog 45 = some (.nilFunc) := by kernel_rfl
theorem cells_46 : Try.prog.cellsOf 46 = 1 := by kernel_rfl
theorem bytes_46 : Try.prog.bytesOf 46 = 8 := by kernel_rfl
theorem info_46 : (Try.prog.info? 46).isSome = true := by kernel_rfl
theorem agg_46 : aggB Try.prog 46 = some false := by kernel_rfl
theorem zero_46 : zeroOf Try.prog 46 = some (.nilFunc) := by kernel_rfl
theorem cells_47 : Try.prog.cellsOf 47 = 3 := by kernel_rfl
theorem bytes_47 : Try.prog.bytesOf 47 = 24 := by kernel_rfl
theorem info_47 : (Try.prog.info? 47).isSome = true := by kernel_rfl
theorem agg_47 : aggB Try.prog 47 = some true := by kernel_rfl
theorem bok_47 : buildOk Try.prog 47 = true := by kernel_rfl
theorem zero_47 : zeroOf Try.prog 47 = some (.agg [.bool false, .int .i64 0, .int .i64 0]) := by kernel_rfl
theorem cells_48 : Try.prog.cellsOf 48 = 3 := by kernel_rfl
theorem bytes_48 : Try.prog.bytesOf 48 = 24 := by kernel_rfl
theorem info_48 : (Try.prog.info? 48).isSome = true := by kernel_rfl
theorem agg_48 : aggB Try.prog 48 = some true := by kernel_rfl
theorem bok_48 : buildOk Try.prog 48 = true := by kernel_rfl
theorem zero_48 : zeroOf Try.prog 48 = some (.agg [.bool false, .int .i64 0, .int .i64 0]) := by kernel_rfl
theorem cells_49 : Try.prog.cellsOf 49 = 1 := by kernel_rfl
theorem bytes_49 : Try.prog.bytesOf 49 = 0 := by kernel_rfl
theorem info_49 : (Try.prog.info? 49).isSome = true := by kernel_rfl
theorem agg_49 : aggB Try.prog 49 = some false := by kernel_rfl
theorem zero_49 : zeroOf Try.prog 49 = some (.tuple [.agg [.bool false, .int .i64 0, .nilSlice], .agg [.bool false, .int .i64 0, .int .i64 0], .int .i64 0]) := by kernel_rfl
theorem cells_50 : Try.prog.cellsOf 50 = 1 := by kernel_rfl
theorem bytes_50 : Try.prog.bytesOf 50 = 8 := by kernel_rfl
theorem info_50 : (Try.prog.info? 50).isSome = true := by kernel_rfl
theorem agg_50 : aggB Try.prog 50 = some false := by kernel_rfl
theorem zero_50 : zeroOf Try.prog 50 = some (.nilFunc) := by kernel_rfl
theorem cells_51 : Try.prog.cellsOf 51 = 1 := by kernel_rfl
theorem bytes_51 : Try.prog.bytesOf 51 = 8 := by kernel_rfl
theorem info_51 : (Try.prog.info? 51).isSome = true := by kernel_rfl
theorem agg_51 : aggB Try.prog 51 = some false := by kernel_rfl
theorem zero_51 : zeroOf Try.prog 51 = some (.nilFunc) := by kernel_rfl
theorem cells_52 : Try.prog.cellsOf 52 = 1 := by kernel_rfl
theorem bytes_52 : Try.prog.bytesOf 52 = 8 := by kernel_rfl
theorem info_52 : (Try.prog.info? 52).isSome = true := by kernel_rfl
theorem agg_52 : aggB Try.prog 52 = some false := by kernel_rfl
theorem zero_52 : zeroOf Try.prog 52 = some (.nilFunc) := by kernel_rfl
theorem cells_53 : Try.prog.cellsOf 53 = 1 := by kernel_rfl
theorem bytes_53 : Try.prog.bytesOf 53 = 8 := by kernel_rfl
theorem info_53 : (Try.prog.info? 53).isSome = true := by kernel_rfl
theorem agg_53 : aggB Try.prog 53 = some false := by kernel_rfl
theorem zero_53 : zeroOf Try.prog 53 = some (.nilFunc) := by kernel_rfl
theorem cells_54 : Try.prog.cellsOf 54 = 1 := by kernel_rfl
theorem bytes_54 : Try.prog.bytesOf 54 = 8 := by kernel_rfl
theorem info_54 : (Try.prog.info? 54).isSome = true := by kernel_rfl
theorem agg_54 : aggB Try.prog 54 = some false := by kernel_rfl
theorem zero_54 : zeroOf Try.prog 54 = some (.nilFunc) := by kernel_rfl
theorem cells_55 : Try.prog.cellsOf 55 = 1 := by kernel_rfl
theorem bytes_55 : Try.prog.bytesOf 55 = 8 := by kernel_rfl
theorem info_55 : (Try.prog.info? 55).isSome = true := by kernel_rfl
theorem agg_55 : aggB Try.prog 55 = some false := by kernel_rfl
theorem zero_55 : zeroOf Try.prog 55 = some (.nilFunc) := by kernel_rfl
theorem cells_56 : Try.prog.cellsOf 56 = 1 := by kernel_rfl
theorem bytes_56 : Try.prog.bytesOf 56 = 8 := by kernel_rfl
theorem info_56 : (Try.prog.info? 56).isSome = true := by kernel_rfl
theorem agg_56 : aggB Try.prog 56 = some false := by kernel_rfl
theorem zero_56 : zeroOf Try.prog 56 = some (.nilFunc) := by kernel_rfl
theorem cells_57 : Try.prog.cellsOf 57 = 1 := by kernel_rfl
theorem bytes_57 : Try.prog.bytesOf 57 = 8 := by kernel_rfl
theorem info_57 : (Try.prog.info? 57).isSome = true := by kernel_rfl
theorem agg_57 : aggB Try.prog 57 = some false := by kernel_rfl
theorem zero_57 : zeroOf Try.prog 57 = some (.nilFunc) := by kernel_rfl
theorem cells_58 : Try.prog.cellsOf 58 = 1 := by kernel_rfl
theorem bytes_58 : Try.prog.bytesOf 58 = 8 := by kernel_rfl
theorem info_58 : (Try.prog.info? 58).isSome = true := by kernel_rfl
theorem agg_58 : aggB Try.prog 58 = some false := by kernel_rfl
theorem zero_58 : zeroOf Try.prog 58 = some (.nilFunc) := by kernel_rfl
theorem cells_59 : Try.prog.cellsOf 59 = 1 := by kernel_rfl
theorem bytes_59 : Try.prog.bytesOf 59 = 0 := by kernel_rfl
theorem info_59 : (Try.prog.info? 59).isSome = true := by kernel_rfl
theorem agg_59 : aggB Try.prog 59 = some false := by kernel_rfl
theorem zero_59 : zeroOf Try.prog 59 = some (.tuple [.nilSlice, .int .i64 0]) := by kernel_rfl
theorem cells_60 : Try.prog.cellsOf 60 = 1 := by kernel_rfl
theorem bytes_60 : Try.prog.bytesOf 60 = 8 := by kernel_rfl
theorem info_60 : (Try.prog.info? 60).isSome = true := by kernel_rfl
theorem agg_60 : aggB Try.prog 60 = some false := by kernel_rfl
theorem zero_60 : zeroOf Try.prog 60 = some (.nilFunc) := by kernel_rfl
theorem cells_61 : Try.prog.cellsOf 61 = 1 := by kernel_rfl
theorem bytes_61 : Try.prog.bytesOf 61 = 8 := by kernel_rfl
theorem info_61 : (Try.prog.info? 61).isSome = true := by kernel_rfl
theorem agg_61 : aggB Try.prog 61 = some false := by kernel_rfl
theorem zero_61 : zeroOf Try.prog 61 = some (.nilFunc) := by kernel_rfl
theorem cells_62 : Try.prog.cellsOf 62 = 1 := by kernel_rfl
theorem bytes_62 : Try.prog.bytesOf 62 = 8 := by kernel_rfl
theorem info_62 : (Try.prog.info? 62).isSome = true := by kernel_rfl
theorem agg_62 : aggB Try.prog 62 = some false := by kernel_rfl
theorem zero_62 : zeroOf Try.prog 62 = some (.nilFunc) := by kernel_rfl
theorem cells_63 : Try.prog.cellsOf 63 = 1 := by kernel_rfl
theorem bytes_63 : Try.prog.bytesOf 63 = 8 := by kernel_rfl
theorem info_63 : (Try.prog.info? 63).isSome = true := by kernel_rfl
theorem agg_63 : aggB Try.prog 63 = some false := by kernel_rfl
theorem zero_63 : zeroOf Try.prog 63 = some (.nilFunc) := by kernel_rfl
theorem cells_64 : Try.prog.cellsOf 64 = 1 := by kernel_rfl
theorem bytes_64 : Try.prog.bytesOf 64 = 8 := by kernel_rfl
theorem info_64 : (Try.prog.info? 64).isSome = true := by kernel_rfl
theorem agg_64 : aggB Try.prog 64 = some false := by kernel_rfl
theorem zero_64 : zeroOf Try.prog 64 = some (.nilFunc) := by kernel_rfl
theorem cells_65 : Try.prog.cellsOf 65 = 1 := by kernel_rfl
theorem bytes_65 : Try.prog.bytesOf 65 = 8 := by kernel_rfl
theorem info_65 : (Try.prog.info? 65).isSome = true := by kernel_rfl
theorem agg_65 : aggB Try.prog 65 = some false := by kernel_rfl
theorem zero_65 : zeroOf Try.prog 65 = some (.nilPtr) := by kernel_rfl
theorem cells_66 : Try.prog.cellsOf 66 = 1 := by kernel_rfl
theorem bytes_66 : Try.prog.bytesOf 66 = 0 := by kernel_rfl
theorem info_66 : (Try.prog.info? 66).isSome = true := by kernel_rfl
theorem agg_66 : aggB Try.prog 66 = some false := by kernel_rfl
theorem zero_66 : zeroOf Try.prog 66 = some (.tuple [.nilPtr, .bool false]) := by kernel_rfl
theorem cells_67 : Try.prog.cellsOf 67 = 1 := by kernel_rfl
theorem bytes_67 : Try.prog.bytesOf 67 = 8 := by kernel_rfl
theorem info_67 : (Try.prog.info? 67).isSome = true := by kernel_rfl
theorem agg_67 : aggB Try.prog 67 = some false := by kernel_rfl
theorem zero_67 : zeroOf Try.prog 67 = some (.nilFunc) := by kernel_rfl
theorem cells_68 : Try.prog.cellsOf 68 = 1 := by kernel_rfl
theorem bytes_68 : Try.prog.bytesOf 68 = 8 := by kernel_rfl
theorem info_68 : (Try.prog.info? 68).isSome = true := by kernel_rfl
theorem agg_68 : aggB Try.prog 68 = some false := by kernel_rfl
theorem zero_68 : zeroOf Try.prog 68 = some (.nilFunc) := by kernel_rfl
theorem cells_69 : Try.prog.cellsOf 69 = 1 := by kernel_rfl
theorem bytes_69 : Try.prog.bytesOf 69 = 8 := by kernel_rfl
theorem info_69 : (Try.prog.info? 69).isSome = true := by kernel_rfl
theorem agg_69 : aggB Try.prog 69 = some false := by kernel_rfl
theorem zero_69 : zeroOf Try.prog 69 = some (.nilFunc) := by kernel_rfl
theorem cells_70 : Try.prog.cellsOf 70 = 3 := by kernel_rfl
theorem bytes_70 : Try.prog.bytesOf 70 = 40 := by kernel_rfl
theorem info_70 : (Try.prog.info? 70).isSome = true := by kernel_rfl
theorem agg_70 : aggB Try.prog 70 = some true := by kernel_rfl
theorem bok_70 : buildOk Try.prog 70 = true := by kernel_rfl
theorem zero_70 : zeroOf Try.prog 70 = some (.agg [.bool false, .int .i64 0, .nilSlice]) := by kernel_rfl
theorem cells_71 : Try.prog.cellsOf 71 = 3 := by kernel_rfl
theorem bytes_71 : Try.prog.bytesOf 71 = 40 := by kernel_rfl
theorem info_71 : (Try.prog.info? 71).isSome = true := by kernel_rfl
theorem agg_71 : aggB Try.prog 71 = some true := by kernel_rfl
theorem bok_71 : buildOk Try.prog 71 = true := by kernel_rfl
theorem zero_71 : zeroOf Try.prog 71 = some (.agg [.bool false, .int .i64 0, .nilSlice]) := by kernel_rfl
theorem cells_72 : Try.prog.cellsOf 72 = 1 := by kernel_rfl
theorem bytes_72 : Try.prog.bytesOf 72 = 8 := by kernel_rfl
theorem info_72 : (Try.prog.info? 72).isSome = true := by kernel_rfl
theorem agg_72 : aggB Try.prog 72 = some false := by kernel_rfl
theorem zero_72 : zeroOf Try.prog 72 = some (.nilFunc) := by kernel_rfl
theorem cells_73 : Try.prog.cellsOf 73 = 1 := by kernel_rfl
theorem bytes_73 : Try.prog.bytesOf 73 = 8 := by kernel_rfl
theorem info_73 : (Try.prog.info? 73).isSome = true := by kernel_rfl
theorem agg_73 : aggB Try.prog 73 = some false := by kernel_rfl
theorem zero_73 : zeroOf Try.prog 73 = some (.nilFunc) := by kernel_rfl
theorem cells_74 : Try.prog.cellsOf 74 = 1 := by kernel_rfl
theorem bytes_74 : Try.prog.bytesOf 74 = 8 := by kernel_rfl
theorem info_74 : (Try.prog.info? 74).isSome = true := by kernel_rfl
theorem agg_74 : aggB Try.prog 74 = some false := by kernel_rfl
theorem zero_74 : zeroOf Try.prog 74 = some (.nilFunc) := by kernel_rfl
theorem cells_75 : Try.prog.cellsOf 75 = 1 := by kernel_rfl
theorem bytes_75 : Try.prog.bytesOf 75 = 8 := by kernel_rfl
theorem info_75 : (Try.prog.info? 75).isSome = true := by kernel_rfl
theorem agg_75 : aggB Try.prog 75 = some false := by kernel_rfl
theorem zero_75 : zeroOf Try.prog 75 = some (.nilFunc) := by kernel_rfl
theorem cells_76 : Try.prog.cellsOf 76 = 1 := by kernel_rfl
theorem bytes_76 : Try.prog.bytesOf 76 = 8 := by kernel_rfl
theorem info_76 : (Try.prog.info? 76).isSome = true := by kernel_rfl
theorem agg_76 : aggB Try.prog 76 = some false := by kernel_rfl
theorem zero_76 : zeroOf Try.prog 76 = some (.nilFunc) := by kernel_rfl
theorem cells_77 : Try.prog.cellsOf 77 = 1 := by kernel_rfl
theorem bytes_77 : Try.prog.bytesOf 77 = 8 := by kernel_rfl
theorem info_77 : (Try.prog.info? 77).isSome = true := by kernel_rfl
theorem agg_77 : aggB Try.prog 77 = some false := by kernel_rfl
theorem zero_77 : zeroOf Try.prog 77 = some (.nilFunc) := by kernel_rfl
theorem cells_78 : Try.prog.cellsOf 78 = 1 := by kernel_rfl
theorem bytes_78 : Try.prog.bytesOf 78 = 0 := by kernel_rfl
theorem info_78 : (Try.prog.info? 78).isSome = true := by kernel_rfl
theorem agg_78 : aggB Try.prog 78 = some false := by kernel_rfl
theorem zero_78 : zeroOf Try.prog 78 = some (.tuple [.int .i64 0, .int .i64 0, .bool false]) := by kernel_rfl
theorem cells_79 : Try.prog.cellsOf 79 = 1 := by kernel_rfl
theorem bytes_79 : Try.prog.bytesOf 79 = 8 := by kernel_rfl
theorem info_79 : (Try.prog.info? 79).isSome = true := by kernel_rfl
theorem agg_79 : aggB Try.prog 79 = some false := by kernel_rfl
theorem zero_79 : zeroOf Try.prog 79 = some (.nilFunc) := by kernel_rfl
theorem cells_80 : Try.prog.cellsOf 80 = 1 := by kernel_rfl
theorem bytes_80 : Try.prog.bytesOf 80 = 0 := by kernel_rfl
theorem info_80 : (Try.prog.info? 80).isSome = true := by kernel_rfl
theorem agg_80 : aggB Try.prog 80 = some false := by kernel_rfl
theorem zero_80 : zeroOf Try.prog 80 = some (.tuple [.nilSlice, .int .i64 0, .int .i64 0]) := by kernel_rfl
theorem cells_81 : Try.prog.cellsOf 81 = 1 := by kernel_rfl
theorem bytes_81 : Try.prog.bytesOf 81 = 8 := by kernel_rfl
theorem info_81 : (Try.prog.info? 81).isSome = true := by kernel_rfl
theorem agg_81 : aggB Try.prog 81 = some false := by kernel_rfl
theorem zero_81 : zeroOf Try.prog 81 = some (.nilFunc) := by kernel_rfl
theorem cells_82 : Try.prog.cellsOf 82 = 1 := by kernel_rfl
theorem bytes_82 : Try.prog.bytesOf 82 = 8 := by kernel_rfl
theorem info_82 : (Try.prog.info? 82).isSome = true := by kernel_rfl
theorem agg_82 : aggB Try.prog 82 = some false := by kernel_rfl
theorem zero_82 : zeroOf Try.prog 82 = some (.nilFunc) := by kernel_rfl
theorem cells_83 : Try.prog.cellsOf 83 = 1 := by kernel_rfl
theorem bytes_83 : Try.prog.bytesOf 83 = 8 := by kernel_rfl
theorem info_83 : (Try.prog.info? 83).isSome = true := by kernel_rfl
theorem agg_83 : aggB Try.prog 83 = some false := by kernel_rfl
theorem zero_83 : zeroOf Try.prog 83 = some (.nilFunc) := by kernel_rfl
theorem cells_84 : Try.prog.cellsOf 84 = 1 := by kernel_rfl
theorem bytes_84 : Try.prog.bytesOf 84 = 8 := by kernel_rfl
theorem info_84 : (Try.prog.info? 84).isSome = true := by kernel_rfl
theorem agg_84 : aggB Try.prog 84 = some false := by kernel_rfl
theorem zero_84 : zeroOf Try.prog 84 = some (.nilFunc) := by kernel_rfl
theorem cells_85 : Try.prog.cellsOf 85 = 1 := by kernel_rfl
theorem bytes_85 : Try.prog.bytesOf 85 = 8 := by kernel_rfl
theorem info_85 : (Try.prog.info? 85).isSome = true := by kernel_rfl
theorem agg_85 : aggB Try.prog 85 = some false := by kernel_rfl
theorem zero_85 : zeroOf Try.prog 85 = some (.nilFunc) := by kernel_rfl
theorem cells_86 : Try.prog.cellsOf 86 = 1 := by kernel_rfl
theorem bytes_86 : Try.prog.bytesOf 86 = 8 := by kernel_rfl
theorem info_86 : (Try.prog.info? 86).isSome = true := by kernel_rfl
theorem agg_86 : aggB Try.prog 86 = some false := by kernel_rfl
theorem zero_86 : zeroOf Try.prog 86 = some (.nilFunc) := by kernel_rfl
theorem cells_87 : Try.prog.cellsOf 87 = 1 := by kernel_rfl
theorem bytes_87 : Try.prog.bytesOf 87 = 8 := by kernel_rfl
theorem info_87 : (Try.prog.info? 87).isSome = true := by kernel_rfl
theorem agg_87 : aggB Try.prog 87 = some false := by kernel_rfl
theorem zero_87 : zeroOf Try.prog 87 = some (.nilFunc) := by kernel_rfl
theorem cells_88 : Try.prog.cellsOf 88 = 1 := by kernel_rfl
theorem bytes_88 : Try.prog.bytesOf 88 = 8 := by kernel_rfl
theorem info_88 : (Try.prog.info? 88).isSome = true := by kernel_rfl
theorem agg_88 : aggB Try.prog 88 = some false := by kernel_rfl
theorem zero_88 : zeroOf Try.prog 88 = some (.nilFunc) := by kernel_rfl
theorem cells_89 : Try.prog.cellsOf 89 = 1 := by kernel_rfl
theorem bytes_89 : Try.prog.bytesOf 89 = 8 := by kernel_rfl
theorem info_89 : (Try.prog.info? 89).isSome = true := by kernel_rfl
theorem agg_89 : aggB Try.prog 89 = some false := by kernel_rfl
theorem zero_89 : zeroOf Try.prog 89 = some (.nilFunc) := by kernel_rfl
theorem cells_90 : Try.prog.cellsOf 90 = 1 := by kernel_rfl
theorem bytes_90 : Try.prog.bytesOf 90 = 8 := by kernel_rfl
theorem info_90 : (Try.prog.info? 90).isSome = true := by kernel_rfl
theorem agg_90 : aggB Try.prog 90 = some false := by kernel_rfl
theorem zero_90 : zeroOf Try.prog 90 = some (.nilFunc) := by kernel_rfl
theorem cells_91 : Try.prog.cellsOf 91 = 32 := by kernel_rfl
theorem bytes_91 : Try.prog.bytesOf 91 = 32 := by kernel_rfl
theorem info_91 : (Try.prog.info? 91).isSome = true := by kernel_rfl
theorem agg_91 : aggB Try.prog 91 = some true := by kernel_rfl
theorem bok_91 : buildOk Try.prog 91 = true := by kernel_rfl
theorem zero_91 : zeroOf Try.prog 91 = some (.agg [.bool false, .bool false, .bool false, .bool false, .bool false, .bool false, .bool false, .bool false, .bool false, .bool false, .bool false, .bool false, .bool false, .bool false, .bool false, .bool false, .bool false, .bool false, .bool false, .bool false, .bool false, .bool false, .bool false, .bool false, .bool false, .bool false, .bool false, .bool false, .bool false, .bool false, .bool false, .bool false]) := by kernel_rfl
theorem cells_92 : Try.prog.cellsOf 92 = 1 := by kernel_rfl
theorem bytes_92 : Try.prog.bytesOf 92 = 8 := by kernel_rfl
theorem info_92 : (Try.prog.info? 92).isSome = true := by kernel_rfl
theorem agg_92 : aggB Try.prog 92 = some false := by kernel_rfl
theorem zero_92 : zeroOf Try.prog 92 = some (.nilFunc) := by kernel_rfl
theorem cells_93 : Try.prog.cellsOf 93 = 4 := by kernel_rfl
theorem bytes_93 : Try.prog.bytesOf 93 = 40 := by kernel_rfl
theorem info_93 : (Try.prog.info? 93).isSome = true := by kernel_rfl
theorem agg_93 : aggB Try.prog 93 = some true := by kernel_rfl
theorem bok_93 : buildOk Try.prog 93 = true := by kernel_rfl
theorem zero_93 : zeroOf Try.prog 93 = some (.agg [.nilPtr, .nilPtr, .nilPtr, .str []]) := by kernel_rfl
theorem cells_94 : Try.prog.cellsOf 94 = 4 := by kernel_rfl
theorem bytes_94 : Try.prog.bytesOf 94 = 40 := by kernel_rfl
theorem info_94 : (Try.prog.info? 94).isSome = true := by kernel_rfl
theorem agg_94 : aggB Try.prog 94 = some true := by kernel_rfl
theorem bok_94 : buildOk Try.prog 94 = true := by kernel_rfl
theorem zero_94 : zeroOf Try.prog 94 = some (.agg [.nilPtr, .nilPtr, .nilPtr, .str []]) := by kernel_rfl
theorem cells_95 : Try.prog.cellsOf 95 = 0 := by kernel_rfl
theorem bytes_95 : Try.prog.bytesOf 95 = 0 := by kernel_rfl
theorem info_95 : (Try.prog.info? 95).isSome = true := by kernel_rfl
theorem agg_95 : aggB Try.prog 95 = some true := by kernel_rfl
theorem bok_95 : buildOk Try.prog 95 = true := by kernel_rfl
theorem zero_95 : zeroOf Try.prog 95 = some (.agg []) := by kernel_rfl
theorem cells_96 : Try.prog.cellsOf 96 = 0 := by kernel_rfl
theorem bytes_96 : Try.prog.bytesOf 96 = 0 := by kernel_rfl
theorem info_96 : (Try.prog.info? 96).isSome = true := by kernel_rfl
theorem agg_96 : aggB Try.prog 96 = some true := by kernel_rfl
theorem bok_96 : buildOk Try.prog 96 = true := by kernel_rfl
theorem zero_96 : zeroOf Try.prog 96 = some (.agg []) := by kernel_rfl
theorem cells_97 : Try.prog.cellsOf 97 = 0 := by kernel_rfl
theorem bytes_97 : Try.prog.bytesOf 97 = 0 := by kernel_rfl
theorem info_97 : (Try.prog.info? 97).isSome = true := by kernel_rfl
theorem agg_97 : aggB Try.prog 97 = some true := by kernel_rfl
theorem bok_97 : buildOk Try.prog 97 = true := by kernel_rfl
theorem zero_97 : zeroOf Try.prog 97 = some (.agg []) := by kernel_rfl
theorem cells_98 : Try.prog.cellsOf 98 = 1 := by kernel_rfl
theorem bytes_98 : Try.prog.bytesOf 98 = 4 := by kernel_rfl
theorem info_98 : (Try.prog.info? 98).isSome = true := by kernel_rfl
theorem agg_98 : aggB Try.prog 98 = some false := by kernel_rfl
theorem zero_98 : zeroOf Try.prog 98 = some (.int .u32 0) := by kernel_rfl
theorem cells_99 : Try.prog.cellsOf 99 = 1 := by kernel_rfl
theorem bytes_99 : Try.prog.bytesOf 99 = 1 := by kernel_rfl
theorem info_99 : (Try.prog.info? 99).isSome = true := by kernel_rfl
theorem agg_99 : aggB Try.prog 99 = some false := by kernel_rfl
theorem zero_99 : zeroOf Try.prog 99 = some (.int .u8 0) := by kernel_rfl
theorem cells_100 : Try.prog.cellsOf 100 = 1 := by kernel_rfl
theorem bytes_100 : Try.prog.bytesOf 100 = 1 := by kernel_rfl
theorem info_100 : (Try.prog.info? 100).isSome = true := by kernel_rfl
theorem agg_100 : aggB Try.prog 100 = some false := by kernel_rfl
theorem zero_100 : zeroOf Try.prog 100 = some (.int .u8 0) := by kernel_rfl
theorem cells_101 : Try.prog.cellsOf 101 = 1 := by kernel_rfl
theorem bytes_101 : Try.prog.bytesOf 101 = 8 := by kernel_rfl
theorem info_101 : (Try.prog.info? 101).isSome = true := by kernel_rfl
theorem agg_101 : aggB Try.prog 101 = some false := by kernel_rfl
theorem zero_101 : zeroOf Try.prog 101 = some (.nilFunc) := by kernel_rfl
theorem cells_102 : Try.prog.cellsOf 102 = 1 := by kernel_rfl
theorem bytes_102 : Try.prog.bytesOf 102 = 8 := by kernel_rfl
theorem info_102 : (Try.prog.info? 102).isSome = true := by kernel_rfl
theorem agg_102 : aggB Try.prog 102 = some false := by kernel_rfl
theorem zero_102 : zeroOf Try.prog 102 = some (.nilPtr) := by kernel_rfl
theorem cells_103 : Try.prog.cellsOf 103 = 1 := by kernel_rfl
theorem bytes_103 : Try.prog.bytesOf 103 = 4 := by kernel_rfl
theorem info_103 : (Try.prog.info? 103).isSome = true := by kernel_rfl
theorem agg_103 : aggB Try.prog 103 = some false := by kernel_rfl
theorem zero_103 : zeroOf Try.prog 103 = some (.int .i32 0) := by kernel_rfl
theorem cells_104 : Try.prog.cellsOf 104 = 1 := by kernel_rfl
theorem bytes_104 : Try.prog.bytesOf 104 = 4 := by kernel_rfl
theorem info_104 : (Try.prog.info? 104).isSome = true := by kernel_rfl
theorem agg_104 : aggB Try.prog 104 = some false := by kernel_rfl
theorem zero_104 : zeroOf Try.prog 104 = some (.int .i32 0) := by kernel_rfl
theorem cells_105 : Try.prog.cellsOf 105 = 11 := by kernel_rfl
theorem bytes_105 : Try.prog.bytesOf 105 = 48 := by kernel_rfl
theorem info_105 : (Try.prog.info? 105).isSome = true := by kernel_rfl
theorem agg_105 : aggB Try.prog 105 = some true := by kernel_rfl
theorem bok_105 : buildOk Try.prog 105 = true := by kernel_rfl
theorem zero_105 : zeroOf Try.prog 105 = some (.agg [.int .u64 0, .int .u64 0, .int .u32 0, .int .u8 0, .int .u8 0, .int .u8 0, .int .u8 0, .nilFunc, .nilPtr, .int .i32 0, .int .i32 0]) := by kernel_rfl
theorem cells_106 : Try.prog.cellsOf 106 = 11 := by kernel_rfl
theorem bytes_106 : Try.prog.bytesOf 106 = 48 := by kernel_rfl
theorem info_106 : (Try.prog.info? 106).isSome = true := by kernel_rfl
theorem agg_106 : aggB Try.prog 106 = some true := by kernel_rfl
theorem bok_106 : buildOk Try.prog 106 = true := by kernel_rfl
theorem zero_106 : zeroOf Try.prog 106 = some (.agg [.int .u64 0, .int .u64 0, .int .u32 0, .int .u8 0, .int .u8 0, .int .u8 0, .int .u8 0, .nilFunc, .nilPtr, .int .i32 0, .int .i32 0]) := by kernel_rfl
theorem cells_107 : Try.prog.cellsOf 107 = 1 := by kernel_rfl
theorem bytes_107 : Try.prog.bytesOf 107 = 8 := by kernel_rfl
theorem info_107 : (Try.prog.info? 107).isSome = true := by kernel_rfl
theorem agg_107 : aggB Try.prog 107 = some false := by kernel_rfl
theorem zero_107 : zeroOf Try.prog 107 = some (.nilPtr) := by kernel_rfl
attribute [go_sem] cells_0 bytes_0 info_0 agg_0 zero_0 Try.underlying0 cells_1 bytes_1 info_1 agg_1 zero_1 Try.underlying1
attribute [go_sem] cells_2 bytes_2 info_2 agg_2 zero_2 Try.underlying2 cells_3 bytes_3 info_3 agg_3 zero_3 Try.underlying3
attribute [go_sem] cells_4 bytes_4 info_4 agg_4 zero_4 Try.underlying4 cells_5 bytes_5 info_5 agg_5 zero_5 Try.underlying5
attribute [go_sem] cells_6 bytes_6 info_6 agg_6 zero_6 Try.underlying6 cells_7 bytes_7 info_7 agg_7 bok_7 Try.eqGuardType7
attribute [go_sem] Try.stoodInHeld7 zero_7 Try.underlying7 cells_8 bytes_8 info_8 agg_8 bok_8 Try.eqGuardType8 Try.stoodInHeld8 zero_8 Try.underlying8
attribute [go_sem] cells_9 bytes_9 info_9 agg_9 zero_9 Try.underlying9 cells_10 bytes_10 info_10 agg_10 zero_10 Try.underlying10
attribute [go_sem] cells_11 bytes_11 info_11 agg_11 zero_11 Try.underlying11 cells_12 bytes_12 info_12 agg_12 zero_12 Try.underlying12
attribute [go_sem] cells_13 bytes_13 info_13 agg_13 bok_13 Try.eqGuardType13 Try.stoodInHeld13 zero_13 Try.underlying13 cells_14 bytes_14 info_14
attribute [go_sem] agg_14 bok_14 Try.eqGuardType14 Try.stoodInHeld14 zero_14 Try.underlying14 cells_15 bytes_15 info_15 agg_15 zero_15 Try.underlying15
attribute [go_sem] cells_16 bytes_16 info_16 agg_16 zero_16 Try.underlying16 cells_17 bytes_17 info_17 agg_17 zero_17 Try.underlying17
attribute [go_sem] cells_18 bytes_18 info_18 agg_18 bok_18 Try.eqGuardType18 Try.stoodInHeld18 zero_18 Try.underlying18 cells_19 bytes_19 info_19
attribute [go_sem] agg_19 bok_19 Try.eqGuardType19 Try.stoodInHeld19 zero_19 Try.underlying19 cells_20 bytes_20 info_20 agg_20 zero_20 Try.underlying20
attribute [go_sem] cells_21 bytes_21 info_21 agg_21 zero_21 Try.underlying21 cells_22 bytes_22 info_22 agg_22 zero_22 Try.underlying22
attribute [go_sem] cells_23 bytes_23 info_23 agg_23 zero_23 Try.underlying23 cells_24 bytes_24 info_24 agg_24 zero_24 Try.underlying24
attribute [go_sem] cells_25 bytes_25 info_25 agg_25 zero_25 Try.underlying25 cells_26 bytes_26 info_26 agg_26 zero_26 Try.underlying26
attribute [go_sem] cells_27 bytes_27 info_27 agg_27 zero_27 Try.underlying27 cells_28 bytes_28 info_28 agg_28 bok_28 Try.eqGuardType28
attribute [go_sem] zero_28 Try.underlying28 cells_29 bytes_29 info_29 agg_29 zero_29 Try.underlying29 cells_30 bytes_30 info_30 agg_30
attribute [go_sem] zero_30 Try.underlying30 cells_31 bytes_31 info_31 agg_31 bok_31 Try.eqGuardType31 Try.stoodInHeld31 zero_31 Try.underlying31 cells_32
attribute [go_sem] bytes_32 info_32 agg_32 bok_32 Try.eqGuardType32 Try.stoodInHeld32 zero_32 Try.underlying32 cells_33 bytes_33 info_33 agg_33
attribute [go_sem] zero_33 Try.underlying33 cells_34 bytes_34 info_34 agg_34 zero_34 Try.underlying34 cells_35 bytes_35 info_35 agg_35
attribute [go_sem] bok_35 Try.eqGuardType35 Try.stoodInHeld35 zero_35 Try.underlying35 cells_36 bytes_36 info_36 agg_36 bok_36 Try.eqGuardType36 Try.stoodInHeld36
attribute [go_sem] zero_36 Try.underlying36 cells_37 bytes_37 info_37 agg_37 zero_37 Try.underlying37 cells_38 bytes_38 info_38 agg_38
attribute [go_sem] zero_38 Try.underlying38 cells_39 bytes_39 info_39 agg_39 zero_39 Try.underlying39 cells_40 bytes_40 info_40 agg_40
attribute [go_sem] zero_40 Try.underlying40 cells_41 bytes_41 info_41 agg_41 zero_41 Try.underlying41 cells_42 bytes_42 info_42 agg_42
attribute [go_sem] zero_42 Try.underlying42 cells_43 bytes_43 info_43 agg_43 zero_43 Try.underlying43 cells_44 bytes_44 info_44 agg_44
attribute [go_sem] zero_44 Try.underlying44 cells_45 bytes_45 info_45 agg_45 zero_45 Try.underlying45 cells_46 bytes_46 info_46 agg_46
attribute [go_sem] zero_46 Try.underlying46 cells_47 bytes_47 info_47 agg_47 bok_47 Try.eqGuardType47 Try.stoodInHeld47 zero_47 Try.underlying47 cells_48
attribute [go_sem] bytes_48 info_48 agg_48 bok_48 Try.eqGuardType48 Try.stoodInHeld48 zero_48 Try.underlying48 cells_49 bytes_49 info_49 agg_49
attribute [go_sem] zero_49 Try.underlying49 cells_50 bytes_50 info_50 agg_50 zero_50 Try.underlying50 cells_51 bytes_51 info_51 agg_51
attribute [go_sem] zero_51 Try.underlying51 cells_52 bytes_52 info_52 agg_52 zero_52 Try.underlying52 cells_53 bytes_53 info_53 agg_53
attribute [go_sem] zero_53 Try.underlying53 cells_54 bytes_54 info_54 agg_54 zero_54 Try.underlying54 cells_55 bytes_55 info_55 agg_55
attribute [go_sem] zero_55 Try.underlying55 cells_56 bytes_56 info_56 agg_56 zero_56 Try.underlying56 cells_57 bytes_57 info_57 agg_57
attribute [go_sem] zero_57 Try.underlying57 cells_58 bytes_58 info_58 agg_58 zero_58 Try.underlying58 cells_59 bytes_59 info_59 agg_59
attribute [go_sem] zero_59 Try.underlying59 cells_60 bytes_60 info_60 agg_60 zero_60 Try.underlying60 cells_61 bytes_61 info_61 agg_61
attribute [go_sem] zero_61 Try.underlying61 cells_62 bytes_62 info_62 agg_62 zero_62 Try.underlying62 cells_63 bytes_63 info_63 agg_63
attribute [go_sem] zero_63 Try.underlying63 cells_64 bytes_64 info_64 agg_64 zero_64 Try.underlying64 cells_65 bytes_65 info_65 agg_65
attribute [go_sem] zero_65 Try.underlying65 cells_66 bytes_66 info_66 agg_66 zero_66 Try.underlying66 cells_67 bytes_67 info_67 agg_67
attribute [go_sem] zero_67 Try.underlying67 cells_68 bytes_68 info_68 agg_68 zero_68 Try.underlying68 cells_69 bytes_69 info_69 agg_69
attribute [go_sem] zero_69 Try.underlying69 cells_70 bytes_70 info_70 agg_70 bok_70 Try.eqGuardType70 Try.stoodInHeld70 zero_70 Try.underlying70 cells_71
attribute [go_sem] bytes_71 info_71 agg_71 bok_71 Try.eqGuardType71 Try.stoodInHeld71 zero_71 Try.underlying71 cells_72 bytes_72 info_72 agg_72
attribute [go_sem] zero_72 Try.underlying72 cells_73 bytes_73 info_73 agg_73 zero_73 Try.underlying73 cells_74 bytes_74 info_74 agg_74
attribute [go_sem] zero_74 Try.underlying74 cells_75 bytes_75 info_75 agg_75 zero_75 Try.underlying75 cells_76 bytes_76 info_76 agg_76
attribute [go_sem] zero_76 Try.underlying76 cells_77 bytes_77 info_77 agg_77 zero_77 Try.underlying77 cells_78 bytes_78 info_78 agg_78
attribute [go_sem] zero_78 Try.underlying78 cells_79 bytes_79 info_79 agg_79 zero_79 Try.underlying79 cells_80 bytes_80 info_80 agg_80
attribute [go_sem] zero_80 Try.underlying80 cells_81 bytes_81 info_81 agg_81 zero_81 Try.underlying81 cells_82 bytes_82 info_82 agg_82
attribute [go_sem] zero_82 Try.underlying82 cells_83 bytes_83 info_83 agg_83 zero_83 Try.underlying83 cells_84 bytes_84 info_84 agg_84
attribute [go_sem] zero_84 Try.underlying84 cells_85 bytes_85 info_85 agg_85 zero_85 Try.underlying85 cells_86 bytes_86 info_86 agg_86
attribute [go_sem] zero_86 Try.underlying86 cells_87 bytes_87 info_87 agg_87 zero_87 Try.underlying87 cells_88 bytes_88 info_88 agg_88
attribute [go_sem] zero_88 Try.underlying88 cells_89 bytes_89 info_89 agg_89 zero_89 Try.underlying89 cells_90 bytes_90 info_90 agg_90
attribute [go_sem] zero_90 Try.underlying90 cells_91 bytes_91 info_91 agg_91 bok_91 Try.eqGuardType91 zero_91 Try.underlying91 cells_92 bytes_92
attribute [go_sem] info_92 agg_92 zero_92 Try.underlying92 cells_93 bytes_93 info_93 agg_93 bok_93 Try.eqGuardType93 Try.stoodInHeld93 zero_93
attribute [go_sem] Try.underlying93 cells_94 bytes_94 info_94 agg_94 bok_94 Try.eqGuardType94 Try.stoodInHeld94 zero_94 Try.underlying94 cells_95 bytes_95
attribute [go_sem] info_95 agg_95 bok_95 Try.eqGuardType95 zero_95 Try.underlying95 cells_96 bytes_96 info_96 agg_96 bok_96 Try.eqGuardType96
attribute [go_sem] Try.stoodInHeld96 zero_96 Try.underlying96 cells_97 bytes_97 info_97 agg_97 bok_97 Try.eqGuardType97 Try.stoodInHeld97 zero_97 Try.underlying97
attribute [go_sem] cells_98 bytes_98 info_98 agg_98 zero_98 Try.underlying98 cells_99 bytes_99 info_99 agg_99 zero_99 Try.underlying99
attribute [go_sem] cells_100 bytes_100 info_100 agg_100 zero_100 Try.underlying100 cells_101 bytes_101 info_101 agg_101 zero_101 Try.underlying101
attribute [go_sem] cells_102 bytes_102 info_102 agg_102 zero_102 Try.underlying102 cells_103 bytes_103 info_103 agg_103 zero_103 Try.underlying103
attribute [go_sem] cells_104 bytes_104 info_104 agg_104 zero_104 Try.underlying104 cells_105 bytes_105 info_105 agg_105 bok_105 Try.eqGuardType105
attribute [go_sem] Try.stoodInHeld105 zero_105 Try.underlying105 cells_106 bytes_106 info_106 agg_106 bok_106 Try.eqGuardType106 Try.stoodInHeld106 zero_106 Try.underlying106
attribute [go_sem] cells_107 bytes_107 info_107 agg_107 zero_107 Try.underlying107 Try.results0 Try.results1 Try.results2 Try.results3 Try.results4 Try.results5
attribute [go_sem] Try.results6 Try.results7 Try.results8 Try.results9 Try.results10 Try.results11 Try.results12 Try.results13 Try.results14 Try.results15 Try.results16 Try.results17
attribute [go_sem] Try.results18 Try.results19 Try.results20 Try.results21 Try.results22 Try.results23 Try.results24 Try.results25 Try.results26 Try.results27 Try.results28 Try.results29
attribute [go_sem] Try.results30 Try.results31 Try.results32 Try.results33 Try.results34 Try.results35 Try.results36 Try.results37 Try.results38 Try.results39 Try.results40 Try.results41
attribute [go_sem] Try.results42 Try.results43 Try.results44 Try.results45 Try.results46 Try.results47 Try.results48 Try.results49 Try.results50 Try.results51 Try.results52 Try.results53
attribute [go_sem] Try.results54 Try.results55 Try.results56 Try.results57 Try.results58 Try.results59 Try.results60 Try.results61 Try.results62 Try.results63 Try.results64
end Go.Dl

-- Slices of ints, of lists of ints: functions of the library.
namespace Go.Dl
open Go Go.Proofs
set_option maxRecDepth 10000

theorem clone_own (G : Nat → DVal) (l : List Int) (H : DHeap) (hl : l.length ≤ 1099511627776) : DCalls Try.prog G 16 [dIs l] H fun e H' => ∃ v, e = .ret v ∧ OwnA H 3 1 l.length (l.map dI) v H' := by
  refine dcalls_intro Try.func16 Try.call16 rfl (by kernel_rfl) ?_
  simp (disch := omega) only [go_sem, ↓reduceIte]
  intro b hb
  cases b with
  | true =>
    simp (disch := omega) only [go_sem, ↓reduceIte]
    have h0 : l = [] := by
      cases l with
      | nil => rfl
      | cons x l => exact absurd (hb (by simp)) (by simp)
    subst h0
    exact DFin.refl ⟨_, rfl, .inl ⟨rfl, rfl, rfl, rfl⟩⟩
  | false =>
    simp (disch := omega) only [go_sem, ↓reduceIte]
    intro r hr; dsimp only at hr
    by_cases h0 : l.length = 0
    · have h1 : l = [] := List.length_eq_zero_iff.1 h0
      subst h1
      simp (disch := omega) only [go_sem, ↓reduceIte]
      exact DFin.refl ⟨_, rfl, .inr ⟨r, hr, rfl, rfl, by simp [splice, upd_upd]⟩⟩
    · simp (disch := omega) only [go_sem, ↓reduceIte]
      intro r' hr'
      refine DFin.refl ⟨_, rfl, .inr ⟨r', ?_, by simp, rfl, ?_⟩⟩
      · by_cases e : r' = r
        · subst e; exact hr
        · simpa [e] using hr'
      · simp [upd_none_self hr, upd_upd, upd_self hr]

theorem clone_spec (G : Nat → DVal) (l : List Int) (H : DHeap) (hl : l.length ≤ 1099511627776) : DCalls Try.prog G 16 [dIs l] H (DRet (dIs l) H) := (clone_own G l H hl).frozen

/-- Where t is in l; -1: nowhere. -/
def idx (l : List Int) (t : Int) : Int := match l.findIdx? (· = t) with | some i => (i : Int) | none => -1

theorem index_spec (G : Nat → DVal) (l : List Int) (t : Int) (H : DHeap) (hl : l.length ≤ 1099511627776) : DCalls Try.prog G 22 [dIs l, dI t] H (DRet (dI (idx l t)) H) := by
  refine dcalls_intro Try.func22 Try.call22 rfl (by kernel_rfl) ?_
  simp (disch := omega) only [go_sem, ↓reduceIte]
  refine DLoop.run (fun (i : Nat) env heap => heap = H ∧ env 0 = dIs l ∧ env 1 = dI t ∧ env 7 = dI l.length ∧ env 8 = dI i ∧ i ≤ l.length ∧ ∀ x ∈ l.take i, x ≠ t) (fun i => l.length - i) 0 ?_ ?_
  · simp (disch := omega) only [go_sem, ↓reduceIte]
    simp
  · rintro i env heap ⟨rfl, h0, h1, h7, h8, hi, hn⟩
    by_cases hlt : i < l.length
    · by_cases hx : t = l[i]
      · simp (disch := omega) only [go_sem, ↓reduceIte, h0, h1, h7, h8, ← hx]
        refine DFin.refl ⟨?_, rfl⟩
        have : l.findIdx? (fun x => decide (x = t)) = some i := by
          rw [List.findIdx?_eq_some_iff_getElem]
          refine ⟨hlt, by simp [hx], fun j hj => ?_⟩
          have := hn (l[j]) (List.mem_take_iff_getElem.2 ⟨j, by omega, rfl⟩)
          simpa using this
        rw [idx, this]
      · simp (disch := omega) only [go_sem, ↓reduceIte, h0, h1, h7, h8, hx]
        refine ⟨i + 1, _, GhostS.refl _, ?_, by omega⟩
        simp (disch := omega) only [go_sem, ↓reduceIte, h0, h1, h7, h8]
        (repeat' apply And.intro) <;> (try first | rfl | assumption | omega)
        rw [List.take_add_one, List.getElem?_eq_getElem hlt]
        intro x hx'
        rcases List.mem_append.1 hx' with h | h
        · exact hn x h
        · simp at h; subst h; exact fun e => hx e.symm
    · simp (disch := omega) only [go_sem, ↓reduceIte, h0, h1, h7, h8]
      refine DFin.refl ⟨?_, rfl⟩
      have hi : i = l.length := by omega
      subst hi
      rw [List.take_length] at hn
      have : l.findIdx? (fun x => decide (x = t)) = none := by
        rw [List.findIdx?_eq_none_iff]
        intro x hx; simpa using hn x hx
      rw [idx, this]
end Go.Dl

-- More functions of the library: Grow, Concat, Delete, IndexFunc, at ints.
namespace Go.Dl
open Go Go.Proofs
set_option maxRecDepth 10000

theorem grow_nil (G : Nat → DVal) (n : Nat) (H : DHeap) (hn : n ≤ 1099511627776) : DCalls Try.prog G 46 [.nilSlice, dI n] H fun e H' =>
    (n = 0 ∧ e = .ret .nilSlice ∧ H' = H) ∨ (n ≠ 0 ∧ ∃ r, H r = none ∧ e = .ret (.oslice 1 r 0 0 n) ∧ H' = upd H r (some (.cells (List.replicate n (dI 0)) 3))) := by
  refine dcalls_intro Try.func46 Try.call46 rfl (by kernel_rfl) ?_
  by_cases h0 : n = 0
  · subst h0
    simp (disch := omega) only [go_sem, ↓reduceIte]
    exact DFin.refl (.inl ⟨rfl, rfl⟩)
  · simp (disch := omega) only [go_sem, ↓reduceIte]
    intro _
    intro r hr; dsimp only at hr
    simp (disch := omega) only [go_sem, ↓reduceIte]
    exact DFin.refl (.inr ⟨r, hr, by simp, rfl⟩)

def idxF (l : List Int) (p : Int → Bool) : Int := match l.findIdx? p with | some i => (i : Int) | none => -1

theorem indexFunc_spec (G : Nat → DVal) (l : List Int) (k : Nat) (cap : List DVal) (p : Int → Bool) (H : DHeap) (hl : l.length ≤ 1099511627776) (hf : ∀ x ∈ l, DCalls Try.prog G k (dI x :: cap) H (DRet (.bool (p x)) H)) :
    DCalls Try.prog G 36 [dIs l, .func (.func k) [] cap] H (DRet (dI (idxF l p)) H) := by
  refine dcalls_intro Try.func36 Try.call36 rfl (by kernel_rfl) ?_
  simp (disch := omega) only [go_sem, ↓reduceIte]
  refine DLoop.run (fun (i : Nat) env heap => heap = H ∧ env 0 = dIs l ∧ env 1 = .func (.func k) [] cap ∧ env 7 = dI l.length ∧ env 8 = dI i ∧ i ≤ l.length ∧ ∀ x ∈ l.take i, p x = false) (fun i => l.length - i) 0 ?_ ?_
  · simp (disch := omega) only [go_sem, ↓reduceIte]
    simp
  · rintro i env heap ⟨rfl, h0, h1, h7, h8, hi, hn⟩
    by_cases hlt : i < l.length
    · simp (disch := omega) only [go_sem, ↓reduceIte, h0, h1, h7, h8]
      refine (hf _ (List.getElem_mem hlt)).mono ?_
      rintro e H1 ⟨rfl, rfl⟩
      simp (disch := omega) only [go_sem, ↓reduceIte]
      cases hx : p l[i] with
      | true =>
        simp (disch := omega) only [go_sem, ↓reduceIte, h0, h1, h7, h8]
        refine DFin.refl ⟨?_, rfl⟩
        have : l.findIdx? p = some i := by
          rw [List.findIdx?_eq_some_iff_getElem]
          refine ⟨hlt, hx, fun j hj => ?_⟩
          have := hn (l[j]) (List.mem_take_iff_getElem.2 ⟨j, by omega, rfl⟩)
          simp [this]
        rw [idxF, this]
      | false =>
        simp (disch := omega) only [go_sem, ↓reduceIte, h0, h1, h7, h8]
        refine ⟨i + 1, _, GhostS.refl _, ?_, by omega⟩
        simp (disch := omega) only [go_sem, ↓reduceIte, h0, h1, h7, h8]
        (repeat' apply And.intro) <;> (try first | rfl | assumption | omega)
        rw [List.take_add_one, List.getElem?_eq_getElem hlt]
        intro x hx'
        rcases List.mem_append.1 hx' with h | h
        · exact hn x h
        · simp at h; subst h; exact hx
    · simp (disch := omega) only [go_sem, ↓reduceIte, h0, h1, h7, h8]
      refine DFin.refl ⟨?_, rfl⟩
      have hi : i = l.length := by omega
      subst hi
      rw [List.take_length] at hn
      have : l.findIdx? p = none := by
        rw [List.findIdx?_eq_none_iff]
        intro x hx; simpa using hn x hx
      rw [idxF, this]

theorem flat_take (q : List (List Int)) (k : Nat) (h : k < q.length) : (q.take (k + 1)).flatten = (q.take k).flatten ++ q[k] := by
  rw [List.take_add_one, List.getElem?_eq_getElem h, List.flatten_append]; simp
theorem flat_take_le (q : List (List Int)) (k : Nat) : (q.take k).flatten.length ≤ q.flatten.length := by
  have : q.flatten = (q.take k).flatten ++ (q.drop k).flatten := by rw [← List.flatten_append, List.take_append_drop]
  rw [this]; simp

theorem splice_fill (a b : List DVal) (n : Nat) (z : DVal) (h : b.length ≤ n) : splice (a ++ List.replicate n z) a.length b = (a ++ b) ++ List.replicate (n - b.length) z := by
  unfold splice
  rw [List.take_left, List.drop_append, List.drop_of_length_le (by omega)]
  simp

/-- A slice that has been made with room for T ints, of which l are filled. -/
def FillA (H : DHeap) (T : Nat) (l : List Int) (v : DVal) (heap : DHeap) : Prop :=
  (T = 0 ∧ v = .nilSlice ∧ heap = H) ∨ (T ≠ 0 ∧ ∃ r, H r = none ∧ v = .oslice 1 r 0 l.length T ∧ heap = upd H r (some (.cells (l.map dI ++ List.replicate (T - l.length) (dI 0)) 3)))

theorem concat_own (G : Nat → DVal) (q : List (List Int)) (H : DHeap) (hq : q.length ≤ 1099511627776) (hl : q.flatten.length ≤ 1099511627776) : DCalls Try.prog G 43 [dIss q] H fun e H' => ∃ v, e = .ret v ∧ OwnA H 3 1 q.flatten.length (q.flatten.map dI) v H' := by
  refine dcalls_intro Try.func43 Try.call43 rfl (by kernel_rfl) ?_
  simp (disch := omega) only [go_sem, ↓reduceIte]
  obtain ⟨I, hI⟩ : ∃ I : Nat → (Nat → DVal) → DHeap → Prop, ∀ k env heap, I k env heap ↔ (H = heap ∧ env 0 = dIss q ∧ env 9 = dIss q ∧ env 10 = dI q.length ∧ env 11 = dI k ∧ env 3 = dI (q.take k).flatten.length ∧ k ≤ q.length) := ⟨_, fun _ _ _ => Iff.rfl⟩
  refine DLoop.run I (fun k => q.length - k) 0 ((hI _ _ _).2 ?_) ?_
  · simp (disch := omega) only [go_sem, ↓reduceIte]
    simp
  · intro k env heap hk
    obtain ⟨rfl, h0, h9, h10, h11, h3, hk⟩ := (hI _ _ _).1 hk
    by_cases hlt : k < q.length
    · have h1 := flat_take q k hlt
      have h2 := flat_take_le q (k + 1)
      rw [h1, List.length_append] at h2
      simp (disch := omega) only [go_sem, ↓reduceIte, h0, h9, h10, h11, h3]
      refine ⟨k + 1, _, GhostS.refl _, (hI _ _ _).2 ?_, by omega⟩
      simp (disch := omega) only [go_sem, ↓reduceIte, h0, h9, h10, h11, h3]
      (repeat' apply And.intro) <;> (try first | rfl | assumption | omega)
      rw [h1, List.length_append, Int.natCast_add]
    · have hkq : k = q.length := by omega
      subst hkq
      rw [List.take_length] at h3
      simp (disch := omega) only [go_sem, ↓reduceIte, h0, h9, h10, h11, h3]
      refine (grow_nil G q.flatten.length H hl).mono ?_
      rintro e H1 hg
      obtain ⟨v, rfl, hv⟩ : ∃ v, e = .ret v ∧ FillA H q.flatten.length [] v H1 := by
        rcases hg with ⟨a, b, c⟩ | ⟨a, r, b, c, d⟩
        · exact ⟨_, b, .inl ⟨a, rfl, c⟩⟩
        · exact ⟨_, c, .inr ⟨a, r, b, rfl, by rw [d]; rfl⟩⟩
      clear hg
      simp (disch := omega) only [go_sem, ↓reduceIte, h0, h9, h10, h11, h3]
      obtain ⟨J, hJ⟩ : ∃ J : Nat → (Nat → DVal) → DHeap → Prop, ∀ k env heap, J k env heap ↔ (env 0 = dIss q ∧ env 25 = dIss q ∧ env 26 = dI q.length ∧ env 27 = dI k ∧ k ≤ q.length ∧ FillA H q.flatten.length (q.take k).flatten (env 6) heap) := ⟨_, fun _ _ _ => Iff.rfl⟩
      refine DLoop.run J (fun k => q.length - k) 0 ((hJ _ _ _).2 ?_) ?_
      · simp (disch := omega) only [go_sem, ↓reduceIte, h0]
        (repeat' apply And.intro) <;> (try first | rfl | assumption | omega)
      · intro k env H1 hk
        obtain ⟨h0, h25, h26, h27, hk, hv⟩ := (hJ _ _ _).1 hk
        by_cases hlt : k < q.length
        · have h1 := flat_take q k hlt
          have h2 := flat_take_le q (k + 1)
          rw [h1, List.length_append] at h2
          rcases hv with ⟨hT, h6, rfl⟩ | ⟨hT, r, hr, h6, rfl⟩
          · have h5 : q[k].length = 0 := by omega
            simp (disch := omega) only [go_sem, ↓reduceIte, h0, h25, h26, h27, h6, h5]
            refine ⟨k + 1, _, GhostS.refl _, (hJ _ _ _).2 ?_, by omega⟩
            simp (disch := omega) only [go_sem, ↓reduceIte, h0, h25, h26, h27, h6, h5]
            (repeat' apply And.intro) <;> (try first | rfl | assumption | omega)
            exact .inl ⟨hT, rfl, rfl⟩
          · simp (disch := omega) only [go_sem, ↓reduceIte, h0, h25, h26, h27, h6]
            refine ⟨by rw [List.length_append, List.length_map, List.length_replicate]; omega, k + 1, _, GhostS.refl _, (hJ _ _ _).2 ?_, by omega⟩
            simp (disch := omega) only [go_sem, ↓reduceIte, h0, h25, h26, h27, h6]
            (repeat' apply And.intro) <;> (try first | rfl | assumption | omega)
            refine .inr ⟨hT, r, hr, by rw [h1, List.length_append], ?_⟩
            rw [h1]
            have := splice_fill ((q.take k).flatten.map dI) (q[k].map dI) (q.flatten.length - (q.take k).flatten.length) (dI 0) (by rw [List.length_map]; omega)
            rw [List.length_map] at this
            rw [this, List.map_append, List.length_map, List.length_append]
            congr 5; omega
        · simp (disch := omega) only [go_sem, ↓reduceIte, h0, h25, h26, h27]
          have hkq : k = q.length := by omega
          subst hkq
          rw [List.take_length] at hv
          rcases hv with ⟨hT, h6, rfl⟩ | ⟨hT, r, hr, h6, rfl⟩
          · simp (disch := omega) only [go_sem, ↓reduceIte, h6]
            have : q.flatten = [] := List.length_eq_zero_iff.1 hT
            exact DFin.refl ⟨_, rfl, by rw [this]; exact .inl ⟨rfl, rfl, rfl, rfl⟩⟩
          · simp (disch := omega) only [go_sem, ↓reduceIte, h6]
            refine DFin.refl ⟨_, rfl, .inr ⟨r, hr, by rw [List.length_map, Nat.mul_one], rfl, ?_⟩⟩
            rw [Nat.sub_self]; simp

theorem concat_spec (G : Nat → DVal) (q : List (List Int)) (H : DHeap) (hq : q.length ≤ 1099511627776) (hl : q.flatten.length ≤ 1099511627776) : DCalls Try.prog G 43 [dIss q] H (DRet (dIs q.flatten) H) := (concat_own G q H hq hl).frozen
end Go.Dl

-- 
namespace Go.Dl
open Go Go.Proofs
set_option maxRecDepth 10000

/-- All callers, with their entries. -/
def clp (e : Nat) : List (List Int) → List (Nat × Int)
  | [] => []
  | l :: q => l.map (fun t => (e, t)) ++ clp (e + 1) q
/-- What 'callers' comes with. -/
def cl (e : Nat) (q : List (List Int)) : List (List DVal) := (clp e q).map fun p => [dI p.1, dI p.2]
theorem cl_nil (e : Nat) : cl e [] = [] := rfl
theorem cl_cons (e : Nat) (l : List Int) (q : List (List Int)) : cl e (l :: q) = l.map (fun t => [dI e, dI t]) ++ cl (e + 1) q := by simp [cl, clp]

theorem drop_cons_iff {α : Type} {L : List α} {k : Nat} {x : α} {r : List α} (h : L.drop k = x :: r) : L[k]? = some x ∧ L.drop (k + 1) = r ∧ k + 1 ≤ L.length := by
  have h1 : k < L.length := by
    rcases Nat.lt_or_ge k L.length with h1 | h1
    · exact h1
    · rw [List.drop_eq_nil_of_le h1] at h; cases h
  rw [List.drop_eq_getElem_cons h1] at h
  injection h with h2 h3
  exact ⟨by rw [List.getElem?_eq_getElem h1, h2], h3, h1⟩

theorem cl_len (e : Nat) (q : List (List Int)) : ∀ x ∈ cl e q, x.length = 2 := by
  intro x hx
  simp only [cl, List.mem_map] at hx
  obtain ⟨p, _, rfl⟩ := hx
  rfl

theorem clp_snd (e : Nat) (q : List (List Int)) : (clp e q).map (·.2) = q.flatten := by
  induction q generalizing e with
  | nil => rfl
  | cons l q ih => simp [clp, ih, Function.comp_def]

theorem cl_get {e : Nat} {q : List (List Int)} {k : Nat} {x : List DVal} (h : (cl e q)[k]? = some x) : ∃ p, (clp e q)[k]? = some p ∧ x = [dI p.1, dI p.2] := by
  simp only [cl, List.getElem?_map, Option.map_eq_some_iff] at h
  obtain ⟨p, h1, h2⟩ := h
  exact ⟨p, h1, h2.symm⟩

theorem callers1_iter (G : Nat → DVal) (q : List (List Int)) (hq : q.length ≤ 1099511627776) (hl : ∀ l ∈ q, l.length ≤ 1099511627776) : DIter Try.prog G 47 [.vptr [dIss q] 0] h0 (cl 0 q) := by
  intro l I Ix Hi X d1 _ _ _ hHl hI hY
  rw [over_h0]
  refine dcalls_intro Try.func47 Try.call47 rfl (by kernel_rfl) ?_
  simp (disch := omega) only [go_sem, ↓reduceIte]
  refine DLoop.run (fun (e : Nat) env heap => env 0 = .func (.yield l) [] [] ∧ env 7 = dIss q ∧ env 8 = dI q.length ∧ env 9 = dI e ∧ e ≤ q.length ∧ ∃ k X, heap = over Hi X ∧ Disj Hi X ∧ I k X ∧ (cl 0 q).drop k = cl e (q.drop e) ∧ k ≤ (cl 0 q).length) (fun e => q.length - e) 0 ?_ ?_
  · simp (disch := omega) only [go_sem, ↓reduceIte]
    exact ⟨rfl, 0, X, rfl, d1, hI, by simp, by simp⟩
  · rintro e env heap ⟨h0', h7, h8, h9, he, k, X, rfl, d1, hI, hL, hk⟩
    by_cases hlt : e < q.length
    · simp (disch := omega) only [go_sem, ↓reduceIte, h0', h7, h8, h9]
      refine DLoop.run (fun (i : Nat) env heap => env 0 = .func (.yield l) [] [] ∧ env 7 = dIss q ∧ env 8 = dI q.length ∧ env 9 = dI e ∧ env 3 = dI e ∧ env 14 = dIs q[e] ∧ env 15 = dI q[e].length ∧ env 16 = dI i ∧ i ≤ q[e].length ∧ ∃ k X, heap = over Hi X ∧ Disj Hi X ∧ I k X ∧ (cl 0 q).drop k = (q[e].drop i).map (fun t => [dI e, dI t]) ++ cl (e + 1) (q.drop (e + 1)) ∧ k ≤ (cl 0 q).length) (fun i => q[e].length - i) 0 ?_ ?_
      · simp (disch := omega) only [go_sem, ↓reduceIte, h0', h7, h8, h9]
        refine ⟨rfl, k, X, rfl, d1, hI, ?_, hk⟩
        rw [hL, List.drop_eq_getElem_cons hlt, cl_cons]
      · rintro i env heap ⟨h0', h7, h8, h9, h3, h14, h15, h16, hi, k, X, rfl, d1, hI, hL, hk⟩
        have hle := hl _ (List.getElem_mem hlt)
        by_cases hlt' : i < q[e].length
        · rw [List.drop_eq_getElem_cons hlt'] at hL
          obtain ⟨hx, hL', hk'⟩ := drop_cons_iff hL
          simp (disch := omega) only [go_sem, ↓reduceIte, h0', h7, h8, h9, h3, h14, h15, h16]
          refine (hY k _ Hi X d1 rfl hx hI).mono ?_
          rintro e1 H1 ⟨X', (⟨rfl, rfl, d2, hI2⟩ | ⟨rfl, o, ho, rfl, d2, hx2⟩)⟩
          · simp (disch := omega) only [go_sem, ↓reduceIte, h0', h7, h8, h9, h3, h14, h15, h16]
            refine ⟨i + 1, _, GhostS.refl _, ?_, by omega⟩
            simp (disch := omega) only [go_sem, ↓reduceIte, h0', h7, h8, h9, h3, h14, h15, h16]
            (repeat' apply And.intro) <;> (try first | rfl | assumption | omega)
            exact ⟨k + 1, X', rfl, d2, hI2, hL', hk'⟩
          · simp (disch := omega) only [go_sem, ↓reduceIte, h0', h7, h8, h9, h3, h14, h15, h16]
            refine DFin.refl ⟨⟨_, rfl⟩, X', .inr ⟨o, ho, rfl, d2, hx2⟩⟩
        · simp (disch := omega) only [go_sem, ↓reduceIte, h0', h7, h8, h9, h3, h14, h15, h16]
          refine ⟨e + 1, _, GhostS.refl _, ?_, by omega⟩
          simp (disch := omega) only [go_sem, ↓reduceIte, h0', h7, h8, h9, h3, h14, h15, h16]
          (repeat' apply And.intro) <;> (try first | rfl | assumption | omega)
          refine ⟨k, X, rfl, d1, hI, ?_, hk⟩
          have : i = q[e].length := by omega
          subst this
          rw [hL]; simp
    · simp (disch := omega) only [go_sem, ↓reduceIte, h0', h7, h8, h9]
      have : e = q.length := by omega
      subst this
      have hkk : k = (cl 0 q).length := by
        rw [List.drop_length, cl_nil] at hL; have := List.drop_eq_nil_iff.1 hL; omega
      subst hkk
      refine DFin.refl ⟨⟨_, rfl⟩, X, .inl ⟨rfl, d1, hI⟩⟩
theorem callers_spec (G : Nat → DVal) (q : List (List Int)) (H : DHeap) : DCalls Try.prog G 45 [dIss q] H fun e H' => e = .ret (.func (.func 47) [] [.vptr [dIss q] 0]) ∧ H' = H := by
  refine dcalls_intro Try.func45 Try.call45 rfl (by kernel_rfl) ?_
  simp (disch := omega) only [go_sem, ↓reduceIte]
  intro r hr
  simp (disch := omega) only [go_sem, ↓reduceIte]
  refine DFin.fz r (upd_same _ _ _) ?_
  simp (disch := omega) only [go_sem, ↓reduceIte, upd_undo hr]
  exact DFin.refl ⟨rfl, rfl⟩

/-- The lists are queues. -/
def mayQ (q : List (List Int)) : Bool := decide (q.length ≤ 8) && q.flatten.all (fun t => decide (0 ≤ t ∧ t < 32)) && decide q.flatten.Nodup

def seenA (l : List Int) : List DVal := (List.range 32).map fun (i : Nat) => .bool (decide ((i : Int) ∈ l))
theorem seenA_len (l : List Int) : (seenA l).length = 32 := by simp [seenA]
theorem seenA_get (l : List Int) (i : Nat) (h : i < 32) : (seenA l)[i]? = some (.bool (decide ((i : Int) ∈ l))) := by simp [seenA, h]
theorem seenA_add (l : List Int) (i : Nat) (h : i < 32) : splice (seenA l) i [.bool true] = seenA (l ++ [(i : Int)]) := by
  apply List.ext_getElem?
  intro j
  simp only [splice]
  have h1 : ((seenA l).take i).length = i := by simp [seenA]; omega
  rw [List.append_assoc]
  rcases Nat.lt_trichotomy j i with hj | hj | hj
  · rw [List.getElem?_append_left (by omega), List.getElem?_take_of_lt hj, seenA_get _ _ (by omega), seenA_get _ _ (by omega)]
    have : (j : Int) ≠ (i : Int) := by omega
    simp [this]
  · subst hj
    rw [List.getElem?_append_right (by omega), h1, seenA_get _ _ h]
    simp
  · rw [List.getElem?_append_right (by omega), h1]
    have : j - i = (j - i - 1) + 1 := by omega
    rw [this]
    simp only [List.cons_append, List.nil_append, List.getElem?_cons_succ, List.getElem?_drop, List.length_cons, List.length_nil]
    rw [show i + (0 + 1) + (j - i - 1) = j by omega]
    by_cases hj2 : j < 32
    · rw [seenA_get _ _ hj2, seenA_get _ _ hj2]
      have : (j : Int) ≠ (i : Int) := by omega
      simp [this]
    · rw [List.getElem?_eq_none (by rw [seenA_len]; omega), List.getElem?_eq_none (by rw [seenA_len]; omega)]

theorem take_succ_get {α : Type} {l : List α} {k : Nat} {x : α} (h : l[k]? = some x) : l.take (k + 1) = l.take k ++ [x] := by
  rw [List.take_add_one, h]; rfl

theorem not_mayQ {q : List (List Int)} {k : Nat} {t : Int} (h : q.flatten[k]? = some t) (hb : ¬ (0 ≤ t ∧ t < 32) ∨ t ∈ q.flatten.take k) : mayQ q = false := by
  have hm := List.mem_of_getElem? h
  unfold mayQ
  rcases hb with hb | hb
  · have : q.flatten.all (fun t => decide (0 ≤ t ∧ t < 32)) = false := by
      rw [List.all_eq_false]
      exact ⟨t, hm, by simpa using hb⟩
    rw [this]; simp
  · have : ¬ q.flatten.Nodup := by
      intro hn
      have h1 := take_succ_get h
      have h2 : (q.flatten.take (k + 1)).Nodup := hn.sublist (List.take_sublist _ _)
      rw [h1] at h2
      have := (List.nodup_append.1 h2).2.2 t hb t (by simp)
      exact this rfl
    simp [this]

theorem may_spec (G : Nat → DVal) (q : List (List Int)) (H : DHeap) (hq : q.length ≤ 1099511627776) (hl : ∀ l ∈ q, l.length ≤ 1099511627776) : DCalls Try.prog G 44 [dIss q] H fun e H' => e = .ret (.bool (mayQ q)) ∧ H' = H := by
  refine dcalls_intro Try.func44 Try.call44 rfl (by kernel_rfl) ?_
  simp (disch := omega) only [go_sem, ↓reduceIte]
  intro r1 h1
  simp (disch := omega) only [go_sem, ↓reduceIte]
  intro r2 h2
  simp only [upd_eq_none] at h1 h2
  obtain ⟨n1, n2, h2⟩ := h2
  simp (disch := omega) only [go_sem, ↓reduceIte]
  refine (callers_spec G q _).mono ?_
  rintro e H1 ⟨rfl, rfl⟩
  simp (disch := omega) only [go_sem, ↓reduceIte]
  refine dwp_range 47 _ (cl 0 q) (callers1_iter G q hq hl) rfl (by kernel_rfl) (cl_len 0 q) H (upd (upd h0 r1 (some (.cells [.bool false] 4))) r2 (some (.cells (seenA []) 91))) (by simp only [← upd_over, over_h0]; rfl) (((Disj.h0 H).hi h1 _).hi h2 _)
    (fun k X => X = upd (upd h0 r1 (some (.cells [.bool false] 4))) r2 (some (.cells (seenA (q.flatten.take k)) 91)) ∧ (q.flatten.take k).Nodup ∧ ∀ t ∈ q.flatten.take k, 0 ≤ t ∧ t < 32)
    (fun c X => c = .ret ∧ mayQ q = false ∧ ∃ A, X = upd (upd h0 r1 (some (.cells [.bool false] 4))) r2 (some (.cells A 91))) ⟨rfl, by simp, by simp⟩ ?_ ?_ ?_
  · rintro k x Hi X d1 hx ⟨rfl, hn, hr⟩
    obtain ⟨⟨e, t⟩, hp, rfl⟩ := cl_get hx
    have ht : q.flatten[k]? = some t := by
      rw [← clp_snd 0, List.getElem?_map, hp]; rfl
    have bad : (¬ (0 ≤ t ∧ t < 32) ∨ t ∈ q.flatten.take k) → mayQ q = false := not_mayQ ht
    have D : ∀ a b, Disj Hi (upd (upd h0 r1 a) r2 b) := fun a b => ((Disj.h0 Hi).hi (d1 r1 (by simp [upd, n2])) a).hi (d1 r2 (by simp [upd])) b
    by_cases c1 : t < 0
    · simp (disch := omega) only [go_sem, ↓reduceIte, n1, n2, upd_swap n2]
      exact ⟨_, rfl, D _ _, bad (.inl (by omega)), _, rfl⟩
    by_cases c2 : 32 ≤ t
    · simp (disch := omega) only [go_sem, ↓reduceIte, n1, n2, upd_swap n2]
      exact ⟨_, rfl, D _ _, bad (.inl (by omega)), _, rfl⟩
    obtain ⟨i, rfl⟩ : ∃ i : Nat, t = i := ⟨t.toNat, by omega⟩
    by_cases c3 : (i : Int) ∈ q.flatten.take k
    · simp (disch := omega) only [go_sem, ↓reduceIte, n1, n2, upd_swap n2, seenA_len, seenA_get _ i (by omega), c3]
      exact ⟨_, rfl, D _ _, bad (.inr c3), _, rfl⟩
    · simp (disch := omega) only [go_sem, ↓reduceIte, n1, n2, upd_swap n2, seenA_len, seenA_get _ i (by omega), c3, seenA_add _ i (by omega)]
      refine ⟨_, rfl, D _ _, ?_, ?_, ?_⟩
      · rw [take_succ_get ht]
      · rw [take_succ_get ht, List.nodup_append]
        exact ⟨hn, by simp, fun a ha b hb e => by simp at hb; subst hb; subst e; exact c3 ha⟩
      · rw [take_succ_get ht]
        intro x hx
        rcases List.mem_append.1 hx with hx | hx
        · exact hr x hx
        · simp at hx; omega
  · rintro X d1 ⟨rfl, hn, hr⟩
    have hall : q.flatten.take (cl 0 q).length = q.flatten := by
      rw [← clp_snd 0, cl, List.take_of_length_le (by simp)]
    rw [hall] at hn hr
    simp (disch := omega) only [go_sem, ↓reduceIte, n1, n2, upd_swap n2]
    refine DFin.over (((Disj.h0 H).hi h1 _).hi h2 _) ⟨?_, rfl⟩
    have : q.flatten.all (fun t => decide (0 ≤ t ∧ t < 32)) = true := by
      rw [List.all_eq_true]; intro x hx; simpa using hr x hx
    simp only [mayQ, this, hn, decide_true, Bool.and_true]
    congr 3; simp; omega
  · rintro c X d1 ⟨rfl, hm, A, rfl⟩
    simp (disch := omega) only [go_sem, ↓reduceIte, n1, n2, DJump]
    refine DFin.over (((Disj.h0 H).hi h1 _).hi h2 _) ?_
    exact ⟨by rw [hm], rfl⟩
end Go.Dl

-- entry: check, with, Delete.
namespace Go.Dl
open Go Go.Proofs
set_option maxRecDepth 10000

theorem splice_set {α : Type} (f : α → DVal) (l : List α) (e : Nat) (x : α) (h : e < l.length) : splice (l.map f) e [f x] = (l.set e x).map f := by
  unfold splice
  rw [List.set_eq_take_append_cons_drop, if_pos h]
  simp

theorem splice_end (a b c : List DVal) (h : c.length = b.length) : splice (a ++ c) a.length b = a ++ b := by
  unfold splice
  rw [List.take_left, List.drop_of_length_le (by simp; omega), List.append_nil]

theorem del_cells (l : List Int) (i : Nat) (h : i < l.length) : splice (splice (l.map dI) i ((l.map dI).drop (i + 1))) (l.length - 1) [dI 0] = (l.eraseIdx i).map dI ++ [dI 0] := by
  rw [List.eraseIdx_eq_take_drop_succ]
  have h1 : splice (l.map dI) i ((l.map dI).drop (i + 1)) = (l.take i ++ l.drop (i + 1)).map dI ++ (l.map dI).drop (l.length - 1) := by
    unfold splice
    rw [List.map_append, List.map_take, List.map_drop]
    congr 2
    simp; omega
  have h2 : ((l.take i ++ l.drop (i + 1)).map dI).length = l.length - 1 := by simp; omega
  rw [h1, ← h2, splice_end _ _ _ (by simp; omega)]

/-- The error of queues, an entry and a task. -/
def chk (q : List (List Int)) (e t : Int) : Int := if mayQ q then (if 0 ≤ e ∧ e < q.length ∧ 0 ≤ t ∧ t < 32 then 0 else 4) else 2

theorem check_spec (G : Nat → DVal) (q : List (List Int)) (e t : Int) (H : DHeap) (hq : q.length ≤ 1099511627776) (hl : ∀ l ∈ q, l.length ≤ 1099511627776) : DCalls Try.prog G 40 [dIss q, dI e, dI t] H (DRet (dI (chk q e t)) H) := by
  refine dcalls_intro Try.func40 Try.call40 rfl (by kernel_rfl) ?_
  simp (disch := omega) only [go_sem, ↓reduceIte]
  refine (may_spec G q _ hq hl).mono ?_
  rintro _ _ ⟨rfl, rfl⟩
  cases hm : mayQ q with
  | false =>
    simp (disch := omega) only [go_sem, ↓reduceIte, hm]
    exact DFin.refl ⟨by simp [chk, hm], rfl⟩
  | true =>
    by_cases c1 : e < 0
    · simp (disch := omega) only [go_sem, ↓reduceIte, hm]
      exact DFin.refl ⟨by rw [chk, hm, if_pos rfl, if_neg (by omega)], rfl⟩
    by_cases c2 : (q.length : Int) ≤ e
    · simp (disch := omega) only [go_sem, ↓reduceIte, hm]
      exact DFin.refl ⟨by rw [chk, hm, if_pos rfl, if_neg (by omega)], rfl⟩
    by_cases c3 : t < 0
    · simp (disch := omega) only [go_sem, ↓reduceIte, hm]
      exact DFin.refl ⟨by rw [chk, hm, if_pos rfl, if_neg (by omega)], rfl⟩
    by_cases c4 : 32 ≤ t
    · simp (disch := omega) only [go_sem, ↓reduceIte, hm]
      exact DFin.refl ⟨by rw [chk, hm, if_pos rfl, if_neg (by omega)], rfl⟩
    · simp (disch := omega) only [go_sem, ↓reduceIte, hm]
      exact DFin.refl ⟨by rw [chk, hm, if_pos rfl, if_pos (by omega)], rfl⟩

/-- A slice of n lists that is filled up to l. -/
def FillR (H : DHeap) (n : Nat) (l : List (List Int)) (v : DVal) (heap : DHeap) : Prop :=
  ∃ r, H r = none ∧ v = .oslice 1 r 0 n n ∧ heap = upd H r (some (.cells (l.map dIs ++ List.replicate (n - l.length) .nilSlice) 27))

theorem with_spec (G : Nat → DVal) (q : List (List Int)) (e : Nat) (l : List Int) (H : DHeap) (he : e < q.length) (hq : q.length ≤ 1099511627776) (hl : ∀ l ∈ q, l.length ≤ 1099511627776) :
    DCalls Try.prog G 42 [dIss q, dI e, dIs l] H (DRet (dIss (q.set e l)) H) := by
  refine dcalls_intro Try.func42 Try.call42 rfl (by kernel_rfl) ?_
  simp (disch := omega) only [go_sem, ↓reduceIte]
  intro r hr; dsimp only at hr
  simp (disch := omega) only [go_sem, ↓reduceIte]
  obtain ⟨I, hI⟩ : ∃ I : Nat → (Nat → DVal) → DHeap → Prop, ∀ k env heap, I k env heap ↔ (env 0 = dIss q ∧ env 1 = dI e ∧ env 2 = dIs l ∧ env 13 = dI q.length ∧ env 14 = dI k ∧ k ≤ q.length ∧ FillR H q.length (q.take k) (env 7) heap) := ⟨_, fun _ _ _ => Iff.rfl⟩
  refine DLoop.run I (fun k => q.length - k) 0 ((hI _ _ _).2 ?_) ?_
  · simp (disch := omega) only [go_sem, ↓reduceIte]
    (repeat' apply And.intro) <;> (try first | rfl | assumption | omega)
    exact ⟨r, hr, rfl, by simp⟩
  · intro k env heap hk
    obtain ⟨h0, h1, h2, h13, h14, hk, r, hr, h7, rfl⟩ := (hI _ _ _).1 hk
    by_cases hlt : k < q.length
    · simp (disch := omega) only [go_sem, ↓reduceIte, h0, h1, h2, h13, h14, h7]
      refine (clone_spec G q[k] _ (hl _ (List.getElem_mem hlt))).mono ?_
      rintro _ _ ⟨rfl, rfl⟩
      simp (disch := omega) only [go_sem, ↓reduceIte, h0, h1, h2, h13, h14, h7]
      have htl : (q.take k).length = k := by rw [List.length_take]; omega
      refine ⟨by rw [List.length_append, List.length_map, htl, List.length_replicate]; omega, k + 1, _, GhostS.refl _, (hI _ _ _).2 ?_, by omega⟩
      simp (disch := omega) only [go_sem, ↓reduceIte, h0, h1, h2, h13, h14, h7]
      (repeat' apply And.intro) <;> (try first | rfl | assumption | omega)
      refine ⟨r, hr, rfl, ?_⟩
      have := splice_fill ((q.take k).map dIs) [dIs q[k]] (q.length - k) .nilSlice (by simp; omega)
      rw [List.length_map, htl] at this
      rw [htl, show [DVal.vslice (q[k].map dI) q[k].length] = [dIs q[k]] from rfl, this, List.take_add_one, List.getElem?_eq_getElem hlt, List.map_append, List.length_append, htl]
      rfl
    · simp (disch := omega) only [go_sem, ↓reduceIte, h0, h1, h2, h13, h14, h7]
      have hkq : k = q.length := by omega
      subst hkq
      simp only [List.take_length, Nat.sub_self, List.replicate_zero, List.append_nil]
      rw [show splice (q.map dIs) e [DVal.vslice (l.map dI) l.length] = _ from splice_set dIs q e l he]
      refine ⟨by simp; omega, OwnA.fin (H := H) (e := 27) (size := 1) (n := q.length) (cs := (q.set e l).map dIs) (.inr ⟨r, hr, by simp, rfl, rfl⟩) ⟨by rw [List.length_set], rfl⟩⟩
end Go.Dl

-- entry: New, Find, Open.
namespace Go.Dl
open Go Go.Proofs
set_option maxRecDepth 10000

theorem clp_mem {e : Nat} {q : List (List Int)} {p : Nat × Int} (h : p ∈ clp e q) : ∃ h : p.1 - e < q.length, e ≤ p.1 ∧ p.2 ∈ q[p.1 - e] := by
  induction q generalizing e with
  | nil => simp [clp] at h
  | cons l q ih =>
    simp only [clp, List.mem_append, List.mem_map] at h
    rcases h with ⟨t, ht, rfl⟩ | h
    · exact ⟨by simp, Nat.le_refl _, by simpa using ht⟩
    · obtain ⟨h1, h2, h3⟩ := ih h
      have e1 : p.1 - e = (p.1 - (e + 1)) + 1 := by omega
      refine ⟨by rw [e1]; simp; exact h1, by omega, ?_⟩
      have : (l :: q)[p.1 - e]'(by rw [e1]; simp; exact h1) = q[p.1 - (e + 1)] := by
        simp only [e1, List.getElem_cons_succ]
      rw [this]; exact h3

/-- The first caller t. -/
def findP (q : List (List Int)) (t : Int) : Option (Nat × Int) := (clp 0 q).find? (fun p => p.2 = t)
def findD (q : List (List Int)) (t : Int) : DVal :=
  if mayQ q then match findP q t with
    | some p => .tuple [dI p.1, dI (idx (q.getD p.1 []) t), .bool true]
    | none => .tuple [dI 0, dI 0, .bool false]
  else .tuple [dI 0, dI 0, .bool false]

theorem find?_step {α : Type} {l : List α} {p : α → Bool} {k : Nat} {x : α} (h : ∀ y ∈ l.take k, p y = false) (hx : l[k]? = some x) (hp : p x = true) : l.find? p = some x := by
  have h1 : k < l.length := (List.getElem?_eq_some_iff.1 hx).1
  have h2 : l[k] = x := (List.getElem?_eq_some_iff.1 hx).2
  rw [List.find?_eq_some_iff_getElem]
  refine ⟨hp, k, h1, h2, fun j hj => ?_⟩
  have := h l[j] (List.mem_take_iff_getElem.2 ⟨j, by omega, rfl⟩)
  simp [this]

theorem find_spec (G : Nat → DVal) (q : List (List Int)) (t : Int) (H : DHeap) (hq : q.length ≤ 1099511627776) (hl : ∀ l ∈ q, l.length ≤ 1099511627776) : DCalls Try.prog G 41 [dIss q, dI t] H (DRet (findD q t) H) := by
  refine dcalls_intro Try.func41 Try.call41 rfl (by kernel_rfl) ?_
  simp (disch := omega) only [go_sem, ↓reduceIte]
  intro r1 h1; dsimp only at h1
  simp (disch := omega) only [go_sem, ↓reduceIte]
  intro r2 h2; dsimp only at h2
  simp (disch := omega) only [go_sem, ↓reduceIte]
  intro r3 h3; dsimp only at h3
  simp (disch := omega) only [go_sem, ↓reduceIte]
  intro r4 h4; dsimp only at h4
  simp (disch := omega) only [go_sem, ↓reduceIte]
  intro r5 h5; dsimp only at h5
  simp only [upd_eq_none] at h1 h2 h3 h4 h5
  simp (disch := omega) only [go_sem, ↓reduceIte, h1, h2, h3, h4, h5]
  obtain ⟨X0, hX, D0, g1, g2, g3, g4, g5⟩ : ∃ X0, upd (upd (upd (upd (upd H r1 (some (.cells [DVal.vslice (q.map dIs) q.length] 26))) r2 (some (.cells [dI t] 3))) r3 (some (.cells [dI 0] 3))) r4 (some (.cells [dI 0] 3))) r5 (some (.cells [.bool false] 4)) = over H X0 ∧
      Disj H X0 ∧ X0 r1 = some (.cells [dIss q] 26) ∧ X0 r2 = some (.cells [dI t] 3) ∧ X0 r3 = some (.cells [dI 0] 3) ∧ X0 r4 = some (.cells [dI 0] 3) ∧ X0 r5 = some (.cells [.bool false] 4) :=
    ⟨upd (upd (upd (upd (upd h0 r1 (some (.cells [dIss q] 26))) r2 (some (.cells [dI t] 3))) r3 (some (.cells [dI 0] 3))) r4 (some (.cells [dI 0] 3))) r5 (some (.cells [.bool false] 4)),
      by simp only [← upd_over, over_h0, dIss], (((((Disj.h0 H).hi h1 _).hi h2.2.2 _).hi h3.2.2.2.2 _).hi h4.2.2.2.2.2.2 _).hi h5.2.2.2.2.2.2.2.2 _, by simp [upd, h2, h3, h4, h5], by simp [upd, h2, h3, h4, h5], by simp [upd, h2, h3, h4, h5], by simp [upd, h2, h3, h4, h5], by simp [upd, h2, h3, h4, h5]⟩
  refine (may_spec G q _ hq hl).mono ?_
  rintro _ _ ⟨rfl, rfl⟩
  rw [hX]
  have o1 := fun Hi => over_x (Hi := Hi) g1
  have o2 := fun Hi => over_x (Hi := Hi) g2
  have o3 := fun Hi => over_x (Hi := Hi) g3
  have o4 := fun Hi => over_x (Hi := Hi) g4
  have o5 := fun Hi => over_x (Hi := Hi) g5
  cases hm : mayQ q with
  | false =>
    simp (disch := omega) only [go_sem, ↓reduceIte, h1, h2, h3, h4, h5, o1, o2, o3, o4, o5]
    refine DFin.over ((D0.st g3 _).hi (D0 r4 (by simp [g4])) _ |>.hi (D0 r5 (by simp [g5])) _) ⟨?_, rfl⟩
    simp [findD, hm]
  | true =>
    simp (disch := omega) only [go_sem, ↓reduceIte, h1, h2, h3, h4, h5, o1, o2, o3, o4, o5]
    refine (callers_spec G q _).mono ?_
    rintro _ _ ⟨rfl, rfl⟩
    simp (disch := omega) only [go_sem, ↓reduceIte]
    refine dwp_range 47 _ (cl 0 q) (callers1_iter G q hq hl) rfl (by kernel_rfl) (cl_len 0 q) H X0 rfl D0
      (fun k X => X = X0 ∧ ∀ p ∈ (clp 0 q).take k, p.2 ≠ t)
      (fun c X => c = .ret ∧ ∃ p, findP q t = some p ∧ X r3 = some (.cells [dI p.1] 3) ∧ X r4 = some (.cells [dI (idx (q.getD p.1 []) t)] 3) ∧ X r5 = some (.cells [.bool true] 4)) ⟨rfl, by simp⟩ ?_ ?_ ?_
    · rintro k x Hi X d1 hx ⟨rfl, hn⟩
      obtain ⟨⟨e, u⟩, hp, rfl⟩ := cl_get hx
      obtain ⟨he, _, hu⟩ := clp_mem (List.mem_of_getElem? hp)
      simp only [Nat.sub_zero] at he hu
      by_cases hut : u = t
      · simp (disch := omega) only [go_sem, ↓reduceIte, h1, h2, h3, h4, h5, o1, o2, o3, o4, o5, hut]
        refine dwp_draws (by kernel_rfl) (.take 0 (.take 1 (.take 2 (.take 3 (.take 4 (.take 5 (.go 6 [] (.go 7 [] (.go 8 [] (.go 9 [] .done)))))))))) (by kernel_rfl) ?_
        simp (disch := omega) only [go_sem, ↓reduceIte, h1, h2, h3, h4, h5, o1, o2, o3, o4, o5, hut]
        refine (index_spec G q[e] t _ (hl _ (List.getElem_mem he))).mono ?_
        rintro _ _ ⟨rfl, rfl⟩
        simp (disch := omega) only [go_sem, ↓reduceIte, h1, h2, h3, h4, h5, o1, o2, o3, o4, o5, hut]
        refine ⟨_, rfl, (d1.hi (d1 r3 (by simp [g3])) _ |>.hi (d1 r4 (by simp [g4])) _).hi (d1 r5 (by simp [g5])) _, (e, u), ?_, ?_, ?_, ?_⟩
        · exact find?_step (fun y hy => by simpa using hn y hy) hp (by simp [hut])
        · simp [upd, h2, h3, h4, h5]
        · have : q.getD e [] = q[e] := by simp [he]
          rw [this]
          simp [upd, h2, h3, h4, h5]
        · simp [upd, h2, h3, h4, h5]
      · simp (disch := omega) only [go_sem, ↓reduceIte, h1, h2, h3, h4, h5, o1, o2, o3, o4, o5, hut]
        refine ⟨_, rfl, d1, rfl, fun p hp' => ?_⟩
        rw [take_succ_get hp] at hp'
        rcases List.mem_append.1 hp' with h | h
        · exact hn p h
        · simp at h; subst h; exact hut
    · rintro X d1 ⟨rfl, hn⟩
      simp (disch := omega) only [go_sem, ↓reduceIte, h1, h2, h3, h4, h5, o1, o2, o3, o4, o5]
      refine DFin.over ((d1.hi (d1 r3 (by simp [g3])) _ |>.hi (d1 r4 (by simp [g4])) _).hi (d1 r5 (by simp [g5])) _) ⟨?_, rfl⟩
      have hf : findP q t = none := by
        unfold findP
        rw [List.find?_eq_none]
        intro p hp
        have : p ∈ (clp 0 q).take (cl 0 q).length := by rw [cl, List.length_map, List.take_length]; exact hp
        simpa using hn p this
      simp [findD, hm, hf]
    · rintro c X d1 ⟨rfl, p, hp, k3, k4, k5⟩
      have o3 := over_x (Hi := H) k3
      have o4 := over_x (Hi := H) k4
      have o5 := over_x (Hi := H) k5
      simp (disch := omega) only [go_sem, ↓reduceIte, DJump, o3, o4, o5]
      refine DFin.over d1 ⟨?_, rfl⟩
      simp [findD, hm, hp]

/-- The first open entry with a caller, and that caller. -/
def openP (q : List (List Int)) (o : List Bool) : Option (Nat × Int) := (clp 0 q).find? (fun p => o.getD p.1 false)
def openD (q : List (List Int)) (o : List Bool) : DVal :=
  if mayQ q then match openP q o with
    | some p => .tuple [dI p.1, dI p.2, .bool true]
    | none => .tuple [dI 0, dI 0, .bool false]
  else .tuple [dI 0, dI 0, .bool false]
def dBs (o : List Bool) : DVal := .vslice (o.map .bool) o.length

theorem open_spec (G : Nat → DVal) (q : List (List Int)) (o : List Bool) (H : DHeap) (hq : q.length ≤ 1099511627776) (hl : ∀ l ∈ q, l.length ≤ 1099511627776) (ho : o.length ≤ 1099511627776) : DCalls Try.prog G 38 [dIss q, dBs o] H (DRet (openD q o) H) := by
  refine dcalls_intro Try.func38 Try.call38 rfl (by kernel_rfl) ?_
  simp (disch := omega) only [go_sem, ↓reduceIte, dBs]
  intro r2 h2; dsimp only at h2
  simp (disch := omega) only [go_sem, ↓reduceIte]
  intro r3 h3; dsimp only at h3
  simp (disch := omega) only [go_sem, ↓reduceIte]
  intro r4 h4; dsimp only at h4
  simp (disch := omega) only [go_sem, ↓reduceIte]
  intro r5 h5; dsimp only at h5
  simp only [upd_eq_none] at h2 h3 h4 h5
  simp (disch := omega) only [go_sem, ↓reduceIte, h2, h3, h4, h5]
  obtain ⟨X0, hX, D0, g2, g3, g4, g5⟩ : ∃ X0, upd (upd (upd (upd H r2 (some (.cells [DVal.vslice (o.map .bool) o.length] 43))) r3 (some (.cells [dI 0] 3))) r4 (some (.cells [dI 0] 3))) r5 (some (.cells [.bool false] 4)) = over H X0 ∧
      Disj H X0 ∧ X0 r2 = some (.cells [DVal.vslice (o.map .bool) o.length] 43) ∧ X0 r3 = some (.cells [dI 0] 3) ∧ X0 r4 = some (.cells [dI 0] 3) ∧ X0 r5 = some (.cells [.bool false] 4) :=
    ⟨upd (upd (upd (upd h0 r2 (some (.cells [DVal.vslice (o.map .bool) o.length] 43))) r3 (some (.cells [dI 0] 3))) r4 (some (.cells [dI 0] 3))) r5 (some (.cells [.bool false] 4)),
      by simp only [← upd_over, over_h0], ((((Disj.h0 H).hi h2 _).hi h3.2.2 _).hi h4.2.2.2.2 _).hi h5.2.2.2.2.2.2 _, by simp [upd, h3, h4, h5], by simp [upd, h3, h4, h5], by simp [upd, h3, h4, h5], by simp [upd, h3, h4, h5]⟩
  refine (may_spec G q _ hq hl).mono ?_
  rintro _ _ ⟨rfl, rfl⟩
  rw [hX]
  have o2 := fun Hi => over_x (Hi := Hi) g2
  have o3 := fun Hi => over_x (Hi := Hi) g3
  have o4 := fun Hi => over_x (Hi := Hi) g4
  have o5 := fun Hi => over_x (Hi := Hi) g5
  cases hm : mayQ q with
  | false =>
    simp (disch := omega) only [go_sem, ↓reduceIte, h3, h4, h5, o2, o3, o4, o5]
    refine DFin.over ((D0.st g3 _).hi (D0 r4 (by simp [g4])) _ |>.hi (D0 r5 (by simp [g5])) _) ⟨?_, rfl⟩
    simp [openD, hm]
  | true =>
    simp (disch := omega) only [go_sem, ↓reduceIte, h3, h4, h5, o2, o3, o4, o5]
    refine (callers_spec G q _).mono ?_
    rintro _ _ ⟨rfl, rfl⟩
    simp (disch := omega) only [go_sem, ↓reduceIte]
    refine dwp_range 47 _ (cl 0 q) (callers1_iter G q hq hl) rfl (by kernel_rfl) (cl_len 0 q) H X0 rfl D0
      (fun k X => X = X0 ∧ ∀ p ∈ (clp 0 q).take k, o.getD p.1 false = false)
      (fun c X => c = .ret ∧ ∃ p, openP q o = some p ∧ X r3 = some (.cells [dI p.1] 3) ∧ X r4 = some (.cells [dI p.2] 3) ∧ X r5 = some (.cells [.bool true] 4)) ⟨rfl, by simp⟩ ?_ ?_ ?_
    · rintro k x Hi X d1 hx ⟨rfl, hn⟩
      obtain ⟨⟨e, u⟩, hp, rfl⟩ := cl_get hx
      have stay : o.getD e false = false → ∀ p ∈ (clp 0 q).take (k + 1), o.getD p.1 false = false := fun h0 p hp' => by
        rw [take_succ_get hp] at hp'
        rcases List.mem_append.1 hp' with h | h
        · exact hn p h
        · simp only [List.mem_singleton] at h; subst h; exact h0
      by_cases he : e < o.length
      · have hge : o.getD e false = o[e] := by simp [he]
        cases hut : o[e] with
        | true =>
          simp (disch := omega) only [go_sem, ↓reduceIte, h3, h4, h5, o2, o3, o4, o5, hut]
          refine ⟨_, rfl, (d1.hi (d1 r3 (by simp [g3])) _ |>.hi (d1 r4 (by simp [g4])) _).hi (d1 r5 (by simp [g5])) _, (e, u), ?_, ?_, ?_, ?_⟩
          · exact find?_step hn hp (by rw [hge, hut])
          · simp [upd, h3, h4, h5]
          · simp [upd, h3, h4, h5]
          · simp [upd, h3, h4, h5]
        | false =>
          simp (disch := omega) only [go_sem, ↓reduceIte, h3, h4, h5, o2, o3, o4, o5, hut]
          exact ⟨_, rfl, d1, rfl, stay (by rw [hge, hut])⟩
      · have hge : o.getD e false = false := by simp [he]
        simp (disch := omega) only [go_sem, ↓reduceIte, h3, h4, h5, o2, o3, o4, o5]
        exact ⟨_, rfl, d1, rfl, stay hge⟩
    · rintro X d1 ⟨rfl, hn⟩
      simp (disch := omega) only [go_sem, ↓reduceIte, h3, h4, h5, o2, o3, o4, o5]
      refine DFin.over ((d1.hi (d1 r3 (by simp [g3])) _ |>.hi (d1 r4 (by simp [g4])) _).hi (d1 r5 (by simp [g5])) _) ⟨?_, rfl⟩
      have hf : openP q o = none := by
        unfold openP
        rw [List.find?_eq_none]
        intro p hp
        have : p ∈ (clp 0 q).take (cl 0 q).length := by rw [cl, List.length_map, List.take_length]; exact hp
        rw [hn p this]; simp
      simp [openD, hm, hf]
    · rintro c X d1 ⟨rfl, p, hp, k3, k4, k5⟩
      have o3 := over_x (Hi := H) k3
      have o4 := over_x (Hi := H) k4
      have o5 := over_x (Hi := H) k5
      simp (disch := omega) only [go_sem, ↓reduceIte, DJump, o3, o4, o5]
      refine DFin.over d1 ⟨?_, rfl⟩
      simp [openD, hm, hp]

def newD (n : Int) : DVal := if 0 ≤ n ∧ n ≤ 8 then .tuple [dIss (List.replicate n.toNat []), dI 0] else .tuple [.nilSlice, dI 4]
theorem new_spec (G : Nat → DVal) (n : Int) (H : DHeap) : DCalls Try.prog G 21 [dI n] H (DRet (newD n) H) := by
  refine dcalls_intro Try.func21 Try.call21 rfl (by kernel_rfl) ?_
  by_cases c1 : n < 0
  · simp (disch := omega) only [go_sem, ↓reduceIte]
    exact DFin.refl ⟨by rw [newD, if_neg (by omega)], rfl⟩
  by_cases c2 : n > 8
  · simp (disch := omega) only [go_sem, ↓reduceIte]
    exact DFin.refl ⟨by rw [newD, if_neg (by omega)], rfl⟩
  · simp (disch := omega) only [go_sem, ↓reduceIte]
    intro r hr; dsimp only at hr
    simp (disch := omega) only [go_sem, ↓reduceIte]
    refine DFin.fz r (upd_same _ _ _) ?_
    have hn : fzs r [] (List.replicate n.toNat DVal.nilSlice) = List.replicate n.toNat DVal.nilSlice := by
      induction n.toNat with
      | zero => simp [fzs]
      | succ k ih => simp [List.replicate_succ, fzs, ih, fz]
    have ht : (List.replicate n.toNat DVal.nilSlice).take n.toNat = List.replicate n.toNat DVal.nilSlice := by simp
    simp (disch := omega) only [go_sem, ↓reduceIte, upd_undo hr, ht]
    refine DFin.le (DLe.tuple (.cons (DLe.vslice _ (DLes.nils _)) (.refl _))) (DFin.refl ⟨?_, rfl⟩)
    rw [newD, if_pos (by omega), dIss, List.map_replicate, List.length_replicate]
    rfl
end Go.Dl

-- entry: Put, Take, Remove.
namespace Go.Dl
open Go Go.Proofs
set_option maxRecDepth 10000

theorem DLe.nilIs : DLe .nilSlice (dIs []) := DLe.nil
theorem DLe.nilIss : DLe .nilSlice (dIss []) := DLe.nil

/-- Put: the queues behind it (none where it is refused), the error. -/
def putL (q : List (List Int)) (e t : Int) : List (List Int) × Int :=
  if chk q e t ≠ 0 then ([], chk q e t) else if (findP q t).isSome then ([], 7) else (q.set e.toNat (q.getD e.toNat [] ++ [t]), 0)
def takeL (q : List (List Int)) (e : Int) : List (List Int) × Int × Int :=
  if chk q e 0 ≠ 0 then ([], 0, chk q e 0) else match q.getD e.toNat [] with
    | [] => ([], 0, 6)
    | t :: l => (q.set e.toNat l, t, 0)
def removeL (q : List (List Int)) (t : Int) : List (List Int) × Int :=
  if mayQ q = false then ([], 2) else if ¬ (0 ≤ t ∧ t < 32) then ([], 4) else match findP q t with
    | none => ([], 6)
    | some p => (q.set p.1 ((q.getD p.1 []).eraseIdx (idx (q.getD p.1 []) t).toNat), 0)

theorem chk_zero {q : List (List Int)} {e t : Int} (h : chk q e t = 0) : mayQ q = true ∧ 0 ≤ e ∧ e < q.length ∧ 0 ≤ t ∧ t < 32 := by
  unfold chk at h
  split at h
  · rename_i hm
    split at h
    · rename_i h2; exact ⟨hm, h2⟩
    · omega
  · omega

theorem put_spec (G : Nat → DVal) (q : List (List Int)) (e t : Int) (H : DHeap) (hq : q.length ≤ 1099511627776) (hl : ∀ l ∈ q, l.length ≤ 1000000000) : DCalls Try.prog G 31 [dIss q, dI e, dI t] H (DRet (.tuple [dIss (putL q e t).1, dI (putL q e t).2]) H) := by
  have hl' : ∀ l ∈ q, l.length ≤ 1099511627776 := fun l h => Nat.le_trans (hl l h) (by omega)
  refine dcalls_intro Try.func31 Try.call31 rfl (by kernel_rfl) ?_
  simp (disch := omega) only [go_sem, ↓reduceIte]
  refine (check_spec G q e t _ hq hl').mono ?_
  rintro _ _ ⟨rfl, rfl⟩
  by_cases hc : chk q e t = 0
  · obtain ⟨hm, e0, e1, t0, t1⟩ := chk_zero hc
    obtain ⟨n, rfl⟩ : ∃ n : Nat, e = n := ⟨e.toNat, by omega⟩
    have hn : n < q.length := by omega
    simp (disch := omega) only [go_sem, ↓reduceIte, hc]
    refine (find_spec G q t _ hq hl').mono ?_
    rintro _ _ ⟨rfl, rfl⟩
    cases hf : findP q t with
    | some p =>
      simp (disch := omega) only [go_sem, ↓reduceIte, findD, hm, hf]
      refine DFin.le (DLe.tuple (.cons .nilIss (.refl _))) (DFin.refl ⟨?_, rfl⟩)
      simp [putL, hc, hf, dIss]
    | none =>
      simp (disch := omega) only [go_sem, ↓reduceIte, findD, hm, hf]
      intro ra ha; dsimp only at ha
      simp (disch := omega) only [go_sem, ↓reduceIte]
      intro rb hb; dsimp only at hb
      simp only [upd_eq_none] at hb
      simp (disch := omega) only [go_sem, ↓reduceIte, hb]
      refine DCalls.fzA rb (by simp [upd, hb]) ?_
      simp (disch := omega) only [go_sem, ↓reduceIte, hb]
      refine DCalls.fzA ra ha ?_
      simp (disch := omega) only [go_sem, ↓reduceIte, hb]
      have hln := hl q[n] (List.getElem_mem hn)
      refine (concat_spec G [q[n], [t]] _ (by simp) (by simp; omega)).mono ?_
      rintro _ _ ⟨rfl, rfl⟩
      simp (disch := omega) only [go_sem, ↓reduceIte]
      refine (with_spec G q n ([q[n], [t]] : List (List Int)).flatten _ hn hq hl').mono ?_
      rintro _ _ ⟨rfl, rfl⟩
      simp (disch := omega) only [go_sem, ↓reduceIte]
      refine DFin.refl ⟨?_, rfl⟩
      simp [putL, hc, hf, hn, dIss]
  · simp (disch := omega) only [go_sem, ↓reduceIte, hc]
    refine DFin.le (DLe.tuple (.cons .nilIss (.refl _))) (DFin.refl ⟨?_, rfl⟩)
    simp [putL, hc, dIss]

theorem take_spec (G : Nat → DVal) (q : List (List Int)) (e : Int) (H : DHeap) (hq : q.length ≤ 1099511627776) (hl : ∀ l ∈ q, l.length ≤ 1000000000) : DCalls Try.prog G 39 [dIss q, dI e] H (DRet (.tuple [dIss (takeL q e).1, dI (takeL q e).2.1, dI (takeL q e).2.2]) H) := by
  have hl' : ∀ l ∈ q, l.length ≤ 1099511627776 := fun l h => Nat.le_trans (hl l h) (by omega)
  refine dcalls_intro Try.func39 Try.call39 rfl (by kernel_rfl) ?_
  simp (disch := omega) only [go_sem, ↓reduceIte]
  refine (check_spec G q e 0 _ hq hl').mono ?_
  rintro _ _ ⟨rfl, rfl⟩
  by_cases hc : chk q e 0 = 0
  · obtain ⟨hm, e0, e1, t0, t1⟩ := chk_zero hc
    obtain ⟨n, rfl⟩ : ∃ n : Nat, e = n := ⟨e.toNat, by omega⟩
    have hn : n < q.length := by omega
    have hg : q.getD n [] = q[n] := by simp [hn]
    have hln := hl q[n] (List.getElem_mem hn)
    cases hq2 : q[n] with
    | nil =>
      simp (disch := omega) only [go_sem, ↓reduceIte, hc, hq2]
      refine DFin.le (DLe.tuple (.cons .nilIss (.refl _))) (DFin.refl ⟨?_, rfl⟩)
      simp only [takeL, hc, ne_eq, not_true_eq_false, if_false, Int.toNat_natCast, hg, hq2]
      simp [dIss]
    | cons u l =>
      rw [hq2] at hln
      simp only [List.length_cons] at hln
      simp (disch := omega) only [go_sem, ↓reduceIte, hc, hq2]
      refine dwp_draws (by kernel_rfl) (.take 0 (.take 1 (.take 2 (.take 3 (.take 6 (.take 7 (.take 8 (.go 4 [8] (.go 5 [8] (.take 9 (.take 10 (.take 11 .done)))))))))))) (by kernel_rfl) ?_
      simp (disch := omega) only [go_sem, ↓reduceIte, hq2, List.map_cons]
      refine (clone_spec G l _ (by omega)).mono ?_
      rintro _ _ ⟨rfl, rfl⟩
      simp (disch := omega) only [go_sem, ↓reduceIte]
      refine (with_spec G q n l _ hn hq hl').mono ?_
      rintro _ _ ⟨rfl, rfl⟩
      simp (disch := omega) only [go_sem, ↓reduceIte]
      refine DFin.refl ⟨?_, rfl⟩
      simp only [takeL, hc, ne_eq, not_true_eq_false, if_false, Int.toNat_natCast, hg, hq2]
      try simp [dIss]
  · simp (disch := omega) only [go_sem, ↓reduceIte, hc]
    refine DFin.le (DLe.tuple (.cons .nilIss (.refl _))) (DFin.refl ⟨?_, rfl⟩)
    simp [takeL, hc, dIss]

theorem idx_found {l : List Int} {t : Int} (h : t ∈ l) : ∃ i : Nat, idx l t = i ∧ i < l.length := by
  unfold idx
  cases hf : l.findIdx? (fun x => decide (x = t)) with
  | none => exact absurd (List.findIdx?_eq_none_iff.1 hf t h) (by simp)
  | some i => exact ⟨i, rfl, (List.findIdx?_eq_some_iff_getElem.1 hf).1⟩

theorem findP_mem {q : List (List Int)} {t : Int} {p : Nat × Int} (h : findP q t = some p) : ∃ h : p.1 < q.length, p.2 = t ∧ t ∈ q[p.1] := by
  have h1 := List.mem_of_find?_eq_some h
  have h2 := List.find?_some h
  obtain ⟨h3, _, h5⟩ := clp_mem h1
  simp only [Nat.sub_zero, decide_eq_true_eq] at h2 h3 h5
  exact ⟨h3, h2, h2 ▸ h5⟩

/-- How many callers each entry has. -/
def cntL (q : List (List Int)) : List Int := if mayQ q then q.map fun l => (l.length : Int) else []

theorem clp_count (q : List (List Int)) (s : Nat) (e : Nat) (h : e < q.length) : (clp s q).countP (fun p => p.1 = s + e) = q[e].length := by
  induction q generalizing s e with
  | nil => simp at h
  | cons l q ih =>
    simp only [clp, List.countP_append]
    cases e with
    | zero =>
      have h1 : (clp (s + 1) q).countP (fun p => p.1 = s + 0) = 0 := by
        rw [List.countP_eq_zero]
        intro p hp
        obtain ⟨_, h2, _⟩ := clp_mem hp
        simp; omega
      rw [h1]
      simp [List.countP_map, Function.comp_def]
    | succ e =>
      have h1 : (l.map (fun t => (s, t))).countP (fun p => p.1 = s + (e + 1)) = 0 := by
        rw [List.countP_eq_zero]
        intro p hp
        simp only [List.mem_map] at hp
        obtain ⟨t, _, rfl⟩ := hp
        simp
      have := ih (s + 1) e (by simpa using h)
      rw [h1]
      simp only [List.getElem_cons_succ, Nat.zero_add]
      rw [← this]
      congr 1
      funext p
      congr 1
      apply propext; constructor <;> intro <;> omega

def cntA (q : List (List Int)) (k : Nat) : List DVal := (List.range q.length).map fun e => dI (((clp 0 q).take k).countP (fun p => p.1 = e) : Nat)

theorem cntA_get (q : List (List Int)) (k e : Nat) (h : e < q.length) : (cntA q k)[e]? = some (dI (((clp 0 q).take k).countP (fun p => p.1 = e) : Nat)) := by simp [cntA, h]
theorem cntA_len (q : List (List Int)) (k : Nat) : (cntA q k).length = q.length := by simp [cntA]
theorem cntA_step (q : List (List Int)) (k : Nat) (p : Nat × Int) (h : (clp 0 q)[k]? = some p) (hp : p.1 < q.length) : splice (cntA q k) p.1 [dI ((((clp 0 q).take k).countP (fun x => x.1 = p.1) : Nat) + 1)] = cntA q (k + 1) := by
  have h1 := splice_set (fun e : Nat => dI (((clp 0 q).take (k + 1)).countP (fun x => x.1 = e) : Nat)) (List.range q.length) p.1 p.1 (by simpa using hp)
  have h2 : (List.range q.length).set p.1 p.1 = List.range q.length := by
    apply List.ext_getElem? ; intro j
    rw [List.getElem?_set]
    split
    · rename_i e; subst e; simp [hp]
    · rfl
  rw [h2] at h1
  show _ = (List.range q.length).map _
  rw [← h1]
  unfold splice
  have hs : ∀ e : Nat, ((clp 0 q).take (k + 1)).countP (fun x => x.1 = e) = ((clp 0 q).take k).countP (fun x => x.1 = e) + if p.1 = e then 1 else 0 := fun e => by
    rw [take_succ_get h, List.countP_append]; simp [List.countP_cons]
  have ht : (cntA q k).take p.1 = ((List.range q.length).map (fun e : Nat => dI (((clp 0 q).take (k + 1)).countP (fun x => x.1 = e) : Nat))).take p.1 := by
    apply List.ext_getElem?; intro j
    rw [List.getElem?_take, List.getElem?_take]
    split
    · rename_i hj
      rw [cntA_get _ _ _ (by omega)]
      simp only [List.getElem?_map, List.getElem?_range (show j < q.length by omega), Option.map_some, hs]
      rw [if_neg (by omega)]; rfl
    · rfl
  have hd : (cntA q k).drop (p.1 + 1) = ((List.range q.length).map (fun e : Nat => dI (((clp 0 q).take (k + 1)).countP (fun x => x.1 = e) : Nat))).drop (p.1 + 1) := by
    apply List.ext_getElem?; intro j
    rw [List.getElem?_drop, List.getElem?_drop]
    by_cases hj : p.1 + 1 + j < q.length
    · rw [cntA_get _ _ _ hj]
      simp only [List.getElem?_map, List.getElem?_range hj, Option.map_some, hs]
      rw [if_neg (by omega)]; rfl
    · rw [List.getElem?_eq_none (by rw [cntA_len]; omega), List.getElem?_eq_none (by simp; omega)]
  simp only [List.length_cons, List.length_nil, Nat.zero_add]
  rw [ht, hd, hs, if_pos rfl]
  rfl

theorem cntA_all (q : List (List Int)) : cntA q (clp 0 q).length = (q.map fun l => (l.length : Int)).map dI := by
  apply List.ext_getElem?; intro j
  by_cases hj : j < q.length
  · rw [cntA_get _ _ _ hj, List.take_length]
    have := clp_count q 0 j hj
    simp only [Nat.zero_add] at this
    simp [hj, this]
  · rw [List.getElem?_eq_none (by rw [cntA_len]; omega), List.getElem?_eq_none (by simp; omega)]

/-- Entry e has a caller. -/
def hasC (n : List Int) (e : Int) : Bool := decide (0 ≤ e ∧ e < n.length ∧ 0 < n.getD e.toNat 0)

/-- The first index of l whose entry has a caller. -/
def chooseI (q : List (List Int)) (l : List Int) : Option Nat := l.findIdx? (hasC (cntL q))
def chooseD (q : List (List Int)) (l : List Int) : DVal := match chooseI q l with | some i => .tuple [dI i, .bool true] | none => .tuple [dI 0, .bool false]

end Go.Dl

-- 
namespace Go.Dl
open Go Go.Proofs
set_option maxRecDepth 10000

-- ceilingref31.task
/-- How often a task is in a list of lists, and where it is first: what the walk counts. -/
abbrev PSt := Int × Int × Int
def pl1 (t e : Int) : List Int → Int → PSt → PSt
  | [], _, s => s
  | x :: xs, i, (n, en, at') => pl1 t e xs (i + 1) (if x = t then (n + 1, if n = 0 then (e, i) else (en, at')) else (n, en, at'))
def pl2 (t : Int) : List (List Int) → Int → PSt → PSt
  | [], _, s => s
  | l :: q, e, s => pl2 t q (e + 1) (pl1 t e l 0 s)

def tot (q : List (List Int)) : Nat := (q.map List.length).sum

theorem tot_drop (q : List (List Int)) (k : Nat) (h : k < q.length) : tot (q.drop k) = q[k].length + tot (q.drop (k + 1)) := by
  unfold tot; rw [List.drop_eq_getElem_cons h, List.map_cons, List.sum_cons]

end Go.Dl

-- The reference of chapter 31: Ints, Same, New, Copy, place, May.
namespace Go.Dl
open Go Go.Proofs
set_option maxRecDepth 10000

theorem take_eq_step {α : Type} {a b : List α} {i : Nat} (ha : i < a.length) (hb : i < b.length) (h : a.take i = b.take i) (e : a[i] = b[i]) : a.take (i + 1) = b.take (i + 1) := by
  rw [List.take_add_one, List.take_add_one, List.getElem?_eq_getElem ha, List.getElem?_eq_getElem hb, h, e]

theorem ints_spec (G : Nat → DVal) (a b : List Int) (H : DHeap) (ha : a.length ≤ 1099511627776) (hb : b.length ≤ 1099511627776) : DCalls Try.prog G 35 [dIs a, dIs b] H (DRet (.bool (decide (a = b))) H) := by
  refine dcalls_intro Try.func35 Try.call35 rfl (by kernel_rfl) ?_
  by_cases hl : a.length = b.length
  · simp (disch := omega) only [go_sem, ↓reduceIte, hl]
    obtain ⟨I, hI⟩ : ∃ I : Nat → (Nat → DVal) → DHeap → Prop, ∀ i env heap, I i env heap ↔ (H = heap ∧ env 0 = dIs a ∧ env 1 = dIs b ∧ env 5 = dI i ∧ i ≤ a.length ∧ a.take i = b.take i) := ⟨_, fun _ _ _ => Iff.rfl⟩
    refine DLoop.run I (fun i => a.length - i) 0 ((hI _ _ _).2 ?_) ?_
    · simp (disch := omega) only [go_sem, ↓reduceIte]
      simp [dIs, hl]
    · intro i env heap hi
      obtain ⟨rfl, h0, h1, h5, hi, ht⟩ := (hI _ _ _).1 hi
      by_cases hlt : i < a.length
      · have hlt' : i < b.length := by omega
        by_cases hx : a[i] = b[i]
        · simp (disch := omega) only [go_sem, ↓reduceIte, h0, h1, h5, hx]
          refine dwp_draws (by kernel_rfl) (.take 0 (.take 1 (.take 2 (.take 3 (.take 4 (.take 5 (.take 6 (.take 7 (.take 8 .done))))))))) (by kernel_rfl) ?_
          simp (disch := omega) only [go_sem, ↓reduceIte, h0, h1, h5, hx]
          refine ⟨i + 1, _, GhostS.refl _, (hI _ _ _).2 ?_, by omega⟩
          simp (disch := omega) only [go_sem, ↓reduceIte, h0, h1, h5]
          (repeat' apply And.intro) <;> (try first | rfl | assumption | omega)
          exact take_eq_step hlt hlt' ht hx
        · simp (disch := omega) only [go_sem, ↓reduceIte, h0, h1, h5, hx]
          refine dwp_draws (by kernel_rfl) (.take 0 (.take 1 (.take 2 (.take 3 (.take 4 (.take 5 (.take 6 (.take 7 (.take 8 .done))))))))) (by kernel_rfl) ?_
          simp (disch := omega) only [go_sem, ↓reduceIte, h0, h1, h5, hx]
          refine DFin.refl ⟨?_, rfl⟩
          rw [decide_eq_false (fun e => hx (by subst e; rfl))]
      · simp (disch := omega) only [go_sem, ↓reduceIte, h0, h1, h5]
        refine DFin.refl ⟨?_, rfl⟩
        have : a = b := by
          rw [List.take_of_length_le (by omega), List.take_of_length_le (by omega)] at ht; exact ht
        rw [decide_eq_true this]
  · simp (disch := omega) only [go_sem, ↓reduceIte, hl]
    refine DFin.refl ⟨?_, rfl⟩
    rw [decide_eq_false (fun e => hl (by rw [e]))]

theorem same_spec (G : Nat → DVal) (a b : List (List Int)) (H : DHeap) (ha : a.length ≤ 1099511627776) (hb : b.length ≤ 1099511627776) (hal : ∀ l ∈ a, l.length ≤ 1099511627776) (hbl : ∀ l ∈ b, l.length ≤ 1099511627776) : DCalls Try.prog G 23 [dIss a, dIss b] H (DRet (.bool (decide (a = b))) H) := by
  refine dcalls_intro Try.func23 Try.call23 rfl (by kernel_rfl) ?_
  by_cases hl : a.length = b.length
  · simp (disch := omega) only [go_sem, ↓reduceIte, hl]
    obtain ⟨I, hI⟩ : ∃ I : Nat → (Nat → DVal) → DHeap → Prop, ∀ i env heap, I i env heap ↔ (H = heap ∧ env 0 = dIss a ∧ env 1 = dIss b ∧ env 5 = dI i ∧ i ≤ a.length ∧ a.take i = b.take i) := ⟨_, fun _ _ _ => Iff.rfl⟩
    refine DLoop.run I (fun i => a.length - i) 0 ((hI _ _ _).2 ?_) ?_
    · simp (disch := omega) only [go_sem, ↓reduceIte]
      simp [dIss, hl]
    · intro i env heap hi
      obtain ⟨rfl, h0, h1, h5, hi, ht⟩ := (hI _ _ _).1 hi
      by_cases hlt : i < a.length
      · have hlt' : i < b.length := by omega
        simp (disch := omega) only [go_sem, ↓reduceIte, h0, h1, h5]
        refine dwp_draws (by kernel_rfl) (.take 0 (.take 1 (.take 2 (.take 3 (.take 4 (.take 5 (.take 6 (.take 7 (.go 8 [] (.take 9 .done)))))))))) (by kernel_rfl) ?_
        simp (disch := omega) only [go_sem, ↓reduceIte, h0, h1, h5]
        refine (ints_spec G a[i] b[i] _ (hal _ (List.getElem_mem hlt)) (hbl _ (List.getElem_mem hlt'))).mono ?_
        rintro _ _ ⟨rfl, rfl⟩
        by_cases hx : a[i] = b[i]
        · simp (disch := omega) only [go_sem, ↓reduceIte, h0, h1, h5, hx]
          refine ⟨i + 1, _, GhostS.refl _, (hI _ _ _).2 ?_, by omega⟩
          simp (disch := omega) only [go_sem, ↓reduceIte, h0, h1, h5]
          (repeat' apply And.intro) <;> (try first | rfl | assumption | omega)
          exact take_eq_step hlt hlt' ht hx
        · simp (disch := omega) only [go_sem, ↓reduceIte, h0, h1, h5, hx]
          refine DFin.refl ⟨?_, rfl⟩
          rw [decide_eq_false (fun e => hx (by subst e; rfl))]
      · simp (disch := omega) only [go_sem, ↓reduceIte, h0, h1, h5]
        refine DFin.refl ⟨?_, rfl⟩
        have : a = b := by
          rw [List.take_of_length_le (by omega), List.take_of_length_le (by omega)] at ht; exact ht
        rw [decide_eq_true this]
  · simp (disch := omega) only [go_sem, ↓reduceIte, hl]
    refine DFin.refl ⟨?_, rfl⟩
    rw [decide_eq_false (fun e => hl (by rw [e]))]

end Go.Dl

-- The reference of chapter 31: place, May, Copy, Find, Counts.
namespace Go.Dl
open Go Go.Proofs
set_option maxRecDepth 10000

theorem pl1_eq (t e : Int) (l : List Int) : ∀ (i n en at' : Int), 0 ≤ n → pl1 t e l i (n, en, at') = (n + (l.count t : Nat), if n = 0 then (match l.findIdx? (· = t) with | some j => (e, i + (j : Int)) | none => (en, at')) else (en, at')) := by
  induction l with
  | nil => intro i n en at' hn; simp [pl1]
  | cons x xs ih =>
    intro i n en at' hn
    simp only [pl1]
    by_cases hx : x = t
    · rw [if_pos hx, ih _ _ _ _ (by omega), if_neg (by omega)]
      subst hx
      simp only [List.count_cons_self, List.findIdx?_cons, decide_true, if_true]
      simp; omega
    · rw [if_neg hx, ih _ _ _ _ hn]
      rw [List.count_cons_of_ne (by simpa using hx), List.findIdx?_cons]
      simp only [hx, decide_false]
      cases hf : xs.findIdx? (fun x => decide (x = t)) with
      | none => simp
      | some j =>
        simp only [Option.map_some]
        have : i + 1 + (j : Int) = i + ((j + 1 : Nat) : Int) := by omega
        rw [this]; simp

/-- Where a task is first. -/
def placeE (q : List (List Int)) (t : Int) : Int × Int := match findP q t with | some p => ((p.1 : Int), idx (q.getD p.1 []) t) | none => (0, 0)

theorem pl2_eq (t : Int) (q : List (List Int)) : ∀ (s : Nat) (n en at' : Int), 0 ≤ n → pl2 t q s (n, en, at') = (n + (q.flatten.count t : Nat), if n = 0 then (match (clp s q).find? (fun p => p.2 = t) with | some p => ((p.1 : Int), idx (q.getD (p.1 - s) []) t) | none => (en, at')) else (en, at')) := by
  induction q with
  | nil => intro s n en at' hn; simp [pl2, clp]
  | cons l q ih =>
    intro s n en at' hn
    simp only [pl2]
    rw [pl1_eq _ _ _ _ _ _ _ hn]
    have hc : ((s : Int) + 1) = ((s + 1 : Nat) : Int) := by omega
    rw [hc]
    generalize hz : (if n = 0 then (match l.findIdx? (· = t) with | some j => ((s : Int), 0 + (j : Int)) | none => (en, at')) else (en, at')) = z
    obtain ⟨z1, z2⟩ := z
    rw [ih (s + 1) _ _ _ (by omega)]
    simp only [List.flatten_cons, List.count_append, clp, List.find?_append]
    by_cases hn0 : n = 0
    · subst hn0
      by_cases hm : t ∈ l
      · have h1 : l.count t ≠ 0 := by rw [Ne, List.count_eq_zero]; exact fun h => h hm
        have h2 : (l.map (fun t => (s, t))).find? (fun p => p.2 = t) = some (s, t) := by
          rw [List.find?_map]
          simp only [Function.comp_def]
          obtain ⟨y, hy⟩ := Option.isSome_iff_exists.1 (show (l.find? (fun x => decide (x = t))).isSome from by rw [List.find?_isSome]; exact ⟨t, hm, by simp⟩)
          rw [hy]
          have := List.find?_some hy
          simp at this; subst this; rfl
        rw [if_neg (by omega), h2]
        simp only [Option.some_or, Nat.sub_self, List.getD_cons_zero, if_true]
        rw [if_pos rfl] at hz
        unfold idx
        cases hf : l.findIdx? (fun x => decide (x = t)) with
        | none => exact absurd (List.findIdx?_eq_none_iff.1 hf t hm) (by simp)
        | some j =>
          rw [hf] at hz; simp at hz
          obtain ⟨rfl, rfl⟩ := hz
          simp
      · have h1 : l.count t = 0 := List.count_eq_zero.2 hm
        have h2 : (l.map (fun t => (s, t))).find? (fun p => p.2 = t) = none := by
          rw [List.find?_eq_none]
          intro p hp
          simp only [List.mem_map] at hp
          obtain ⟨u, hu, rfl⟩ := hp
          simp; intro e; subst e; exact hm hu
        have h3 : l.findIdx? (fun x => decide (x = t)) = none := by
          rw [List.findIdx?_eq_none_iff]; intro x hx; simp; intro e; subst e; exact hm hx
        rw [if_pos rfl, h3] at hz
        simp at hz
        obtain ⟨rfl, rfl⟩ := hz
        rw [h1, if_pos (by simp), h2]
        simp only [Option.none_or, if_true]
        cases hf : (clp (s + 1) q).find? (fun p => decide (p.2 = t)) with
        | none => simp
        | some p =>
          obtain ⟨_, h4, _⟩ := clp_mem (List.mem_of_find?_eq_some hf)
          have h5 : p.1 - s = (p.1 - (s + 1)) + 1 := by omega
          have h6 : (l :: q).getD (p.1 - s) [] = q.getD (p.1 - (s + 1)) [] := by rw [h5]; simp
          simp only [h6]
          simp
    · rw [if_neg hn0] at hz
      cases hz
      rw [if_neg (by omega), if_neg hn0]
      simp; omega

/-- How many of l lie below m. -/
def cntTo (l : List Int) (m : Nat) : Nat := l.countP (fun x => decide (0 ≤ x ∧ x < (m : Int)))
theorem cntTo_succ (l : List Int) (m : Nat) : cntTo l (m + 1) = cntTo l m + l.count (m : Int) := by
  induction l with
  | nil => simp [cntTo]
  | cons x xs ih =>
    simp only [cntTo, List.countP_cons, List.count_cons] at ih ⊢
    rw [ih]
    by_cases h1 : x = (m : Int)
    · subst h1
      have e1 : decide ((0 : Int) ≤ (m : Int) ∧ (m : Int) < ((m + 1 : Nat) : Int)) = true := by simp; omega
      have e2 : decide ((0 : Int) ≤ (m : Int) ∧ (m : Int) < ((m : Nat) : Int)) = false := by simp
      rw [e1, e2]; simp; omega
    · have h2 : (x == (m : Int)) = false := by simpa using h1
      rw [h2]
      have e1 : decide ((0 : Int) ≤ x ∧ x < ((m + 1 : Nat) : Int)) = decide ((0 : Int) ≤ x ∧ x < ((m : Nat) : Int)) := by
        apply decide_eq_decide.2; omega
      rw [e1]; simp; omega

theorem mayQ_iff (q : List (List Int)) : mayQ q = true ↔ q.length ≤ 8 ∧ cntTo q.flatten 32 = q.flatten.length ∧ ∀ i : Nat, i < 32 → q.flatten.count (i : Int) ≤ 1 := by
  simp only [mayQ, Bool.and_eq_true, decide_eq_true_eq, List.all_eq_true, cntTo, List.countP_eq_length, List.nodup_iff_count]
  constructor
  · rintro ⟨⟨h1, h2⟩, h3⟩
    exact ⟨h1, fun x hx => by simpa using h2 x hx, fun i _ => h3 i⟩
  · rintro ⟨h1, h2, h3⟩
    refine ⟨⟨h1, fun x hx => by simpa using h2 x hx⟩, fun x => ?_⟩
    by_cases hx : x ∈ q.flatten
    · have := h2 x hx
      obtain ⟨i, rfl⟩ : ∃ i : Nat, x = i := ⟨x.toNat, by omega⟩
      exact h3 i (by omega)
    · rw [List.count_eq_zero.2 hx]; omega

end Go.Dl

-- The reference of chapter 31: Copy, Find, Put, Take, Remove.
namespace Go.Dl
open Go Go.Proofs
set_option maxRecDepth 10000

/-- Lists with one of them replaced, if there is one at that place. -/
def setI (q : List (List Int)) (e : Int) (l : List Int) : List (List Int) := if 0 ≤ e then q.set e.toNat l else q

theorem setI_len (q : List (List Int)) (e : Int) (l : List Int) : (setI q e l).length = q.length := by unfold setI; split <;> simp
theorem setI_take (q : List (List Int)) (e : Int) (l : List Int) (k : Nat) (h : k < q.length) : (setI q e l).take (k + 1) = (setI q e l).take k ++ [if (k : Int) = e then l else q[k]] := by
  have hl := setI_len q e l
  have hg : (setI q e l)[k]? = some (if (k : Int) = e then l else q[k]) := by
    unfold setI
    split
    · rename_i h0
      rw [List.getElem?_set]
      by_cases he : (k : Int) = e
      · rw [if_pos (by omega), if_pos he, if_pos (by omega)]
      · rw [if_neg (by omega), if_neg he, List.getElem?_eq_getElem h]
    · rw [if_neg (by omega), List.getElem?_eq_getElem h]
  rw [List.take_add_one, hg]; rfl

end Go.Dl

-- The reference of chapter 31: Put, Take, Remove, Choose, Open.
namespace Go.Dl
open Go Go.Proofs
set_option maxRecDepth 10000

theorem findP_none {q : List (List Int)} {t : Int} : findP q t = none ↔ q.flatten.count t = 0 := by
  rw [List.count_eq_zero, findP, List.find?_eq_none, ← clp_snd 0]
  simp only [List.mem_map, decide_eq_true_eq]
  exact ⟨fun h ⟨p, hp, e⟩ => h p hp e, fun h p hp e => h ⟨p, hp, e⟩⟩

end Go.Dl

-- The reference of chapter 31: Remove, Choose, Open.
namespace Go.Dl
open Go Go.Proofs
set_option maxRecDepth 10000

theorem eraseIdx_take_step (l : List Int) (i k : Nat) (hk : k < l.length) : (l.take (k + 1)).eraseIdx i = if k = i then (l.take k).eraseIdx i else (l.take k).eraseIdx i ++ [l[k]] := by
  rw [List.take_add_one, List.getElem?_eq_getElem hk]
  simp only [Option.toList_some]
  have hl : (l.take k).length = k := by rw [List.length_take]; omega
  by_cases h : i < k
  · rw [if_neg (by omega), List.eraseIdx_append_of_lt_length (by omega)]
  · rw [List.eraseIdx_append_of_length_le (by omega), hl]
    by_cases h2 : k = i
    · subst h2; rw [if_pos rfl, Nat.sub_self, List.eraseIdx_of_length_le (l := l.take k) (by omega)]; simp
    · rw [if_neg h2, List.eraseIdx_of_length_le (l := [l[k]]) (by simp; omega), List.eraseIdx_of_length_le (l := l.take k) (by omega)]

theorem clp_first {q : List (List Int)} (s : Nat) (P : Nat → Bool) : (∀ k, k < q.length → (P (s + k) && decide (0 < (q.getD k []).length)) = false) → (clp s q).find? (fun p => P p.1) = none := by
  intro h
  rw [List.find?_eq_none]
  intro p hp
  obtain ⟨h1, h2, h3⟩ := clp_mem hp
  have := h (p.1 - s) h1
  rw [show s + (p.1 - s) = p.1 by omega] at this
  have h4 : 0 < (q.getD (p.1 - s) []).length := by
    have : q.getD (p.1 - s) [] = q[p.1 - s] := by simp [h1]
    rw [this]; exact List.length_pos_of_mem h3
  rw [decide_eq_true h4, Bool.and_true] at this
  simp [this]

theorem clp_found {q : List (List Int)} : ∀ (s : Nat) (P : Nat → Bool) (k : Nat) (u : Int) (l : List Int), q[k]? = some (u :: l) → P (s + k) = true → (∀ j, j < k → (P (s + j) && decide (0 < (q.getD j []).length)) = false) → (clp s q).find? (fun p => P p.1) = some (s + k, u) := by
  induction q with
  | nil => intro s P k u l h; simp at h
  | cons a q ih =>
    intro s P k u l h hp hn
    simp only [clp, List.find?_append]
    cases k with
    | zero =>
      simp at h; subst h
      simp at hp
      simp [hp]
    | succ k =>
      have h0 := hn 0 (by omega)
      have h1 : (a.map (fun t => (s, t))).find? (fun p => P p.1) = none := by
        rw [List.find?_eq_none]
        intro p hp'
        simp only [List.mem_map] at hp'
        obtain ⟨t, ht, rfl⟩ := hp'
        have := List.length_pos_of_mem ht
        simpa [this] using h0
      rw [h1, Option.none_or]
      have := ih (s + 1) P k u l (by simpa using h) (by rw [show s + 1 + k = s + (k + 1) by omega]; exact hp) (fun j hj => by
        have := hn (j + 1) (by omega)
        rw [show s + 1 + j = s + (j + 1) by omega]; simpa using this)
      rw [this, show s + 1 + k = s + (k + 1) by omega]

end Go.Dl

-- Plain laws of queues: what Put, Find, Take, Remove do one behind the other.
namespace Go.Dl
open Go

theorem clp_append (s : Nat) (a b : List (List Int)) : clp s (a ++ b) = clp s a ++ clp (s + a.length) b := by
  induction a generalizing s with
  | nil => simp [clp]
  | cons l a ih =>
    simp only [List.cons_append, clp, ih, List.length_cons, List.append_assoc]
    rw [show s + 1 + a.length = s + (a.length + 1) by omega]

theorem clp_find_none {s : Nat} {q : List (List Int)} {t : Int} (h : t ∉ q.flatten) : (clp s q).find? (fun p => p.2 = t) = none := by
  rw [List.find?_eq_none]
  intro p hp e
  simp only [decide_eq_true_eq] at e
  refine h ?_
  rw [← clp_snd s, List.mem_map]
  exact ⟨p, hp, e⟩

theorem split_at (q : List (List Int)) (n : Nat) (h : n < q.length) : q = q.take n ++ q[n] :: q.drop (n + 1) := by
  have h1 := List.take_append_drop n q
  rw [List.drop_eq_getElem_cons h] at h1
  exact h1.symm
theorem set_split (q : List (List Int)) (n : Nat) (l : List Int) (h : n < q.length) : q.set n l = q.take n ++ l :: q.drop (n + 1) := by
  rw [List.set_eq_take_append_cons_drop, if_pos h]

theorem set_flat_count (q : List (List Int)) (n : Nat) (m : List Int) (h : n < q.length) (x : Int) : (q.set n (q[n] ++ m)).flatten.count x = q.flatten.count x + m.count x := by
  rw [set_split q n _ h]
  conv => rhs; rw [split_at q n h]
  simp only [List.flatten_append, List.flatten_cons, List.count_append]
  omega

theorem mem_flat_set (q : List (List Int)) (n : Nat) (m : List Int) (h : n < q.length) (x : Int) : x ∈ (q.set n (q[n] ++ m)).flatten ↔ x ∈ q.flatten ∨ x ∈ m := by
  rw [← List.count_pos_iff, set_flat_count q n m h, ← List.count_pos_iff, ← List.count_pos_iff]
  omega

/-- A task that is in no queue is put at the end of a queue: these are queues. -/
theorem mayQ_put {q : List (List Int)} {n : Nat} {t : Int} (hm : mayQ q = true) (h : n < q.length) (ht : 0 ≤ t ∧ t < 32) (hn : t ∉ q.flatten) : mayQ (q.set n (q[n] ++ [t])) = true := by
  simp only [mayQ, Bool.and_eq_true, decide_eq_true_eq, List.all_eq_true] at hm ⊢
  obtain ⟨⟨h1, h2⟩, h3⟩ := hm
  refine ⟨⟨by simpa using h1, fun x hx => ?_⟩, ?_⟩
  · rcases (mem_flat_set q n [t] h x).1 hx with hx | hx
    · exact h2 x hx
    · simp at hx; subst hx; exact ht
  · rw [List.nodup_iff_count] at h3 ⊢
    intro x
    rw [set_flat_count q n [t] h]
    by_cases hx : x = t
    · subst hx
      rw [List.count_eq_zero.2 hn]; simp
    · rw [List.count_eq_zero.2 (show x ∉ [t] by simpa using hx)]; exact h3 x

theorem findP_put {q : List (List Int)} {n : Nat} {t : Int} (h : n < q.length) (hn : t ∉ q.flatten) : findP (q.set n (q[n] ++ [t])) t = some (n, t) := by
  have h0 := split_at q n h
  have hT : t ∉ (q.take n).flatten := fun hx => hn (by rw [h0]; simp only [List.flatten_append, List.mem_append]; exact .inl hx)
  have hq : t ∉ q[n] := fun hx => hn (by rw [h0]; simp only [List.flatten_append, List.flatten_cons, List.mem_append]; exact .inr (.inl hx))
  unfold findP
  rw [set_split q n _ h, clp_append, List.find?_append, clp_find_none hT, Option.none_or]
  have hl : (q.take n).length = n := by rw [List.length_take]; omega
  simp only [hl, Nat.zero_add, clp, List.map_append, List.find?_append]
  have : (q[n].map (fun t => (n, t))).find? (fun p => p.2 = t) = none := by
    rw [List.find?_eq_none]
    intro p hp e
    simp only [List.mem_map] at hp
    obtain ⟨u, hu, rfl⟩ := hp
    simp at e; subst e; exact hq hu
  rw [this]; simp

theorem idx_put {l : List Int} {t : Int} (h : t ∉ l) : idx (l ++ [t]) t = l.length := by
  unfold idx
  have : (l ++ [t]).findIdx? (fun x => decide (x = t)) = some l.length := by
    rw [List.findIdx?_eq_some_iff_getElem]
    refine ⟨by simp, by simp, fun j hj => ?_⟩
    rw [List.getElem_append_left (by omega)]
    have : l[j] ≠ t := fun e => h (e ▸ List.getElem_mem (by omega))
    simpa using this
  rw [this]

theorem put_ok {q : List (List Int)} {e t : Int} (h : (putL q e t).2 = 0) : ∃ n : Nat, ∃ hn : n < q.length, e = n ∧ mayQ q = true ∧ (0 ≤ t ∧ t < 32) ∧ t ∉ q.flatten ∧ putL q e t = (q.set n (q[n] ++ [t]), 0) := by
  unfold putL at h
  split at h
  · rename_i hc; exact absurd h hc
  · rename_i hc
    simp only [ne_eq, Decidable.not_not] at hc
    obtain ⟨hm, e0, e1, t0, t1⟩ := chk_zero hc
    split at h
    · simp at h
    · rename_i hf
      have hf' : findP q t = none := by
        cases hx : findP q t with
        | none => rfl
        | some p => rw [hx] at hf; exact absurd rfl hf
      obtain ⟨n, rfl⟩ : ∃ n : Nat, e = n := ⟨e.toNat, by omega⟩
      have hn : n < q.length := by omega
      refine ⟨n, hn, rfl, hm, ⟨t0, t1⟩, ?_, ?_⟩
      · rw [← List.count_eq_zero]
        exact findP_none.1 hf'
      · simp [putL, hc, hf', hn]

theorem put_fail {q : List (List Int)} {e t : Int} (h : (putL q e t).2 ≠ 0) : (putL q e t).1 = [] := by
  unfold putL at h ⊢
  split
  · rfl
  · split
    · rfl
    · rename_i h1 h2
      rw [if_neg h1, if_neg h2] at h
      exact absurd rfl h

theorem remove_put {q : List (List Int)} {n : Nat} {t : Int} (hm : mayQ q = true) (h : n < q.length) (ht : 0 ≤ t ∧ t < 32) (hn : t ∉ q.flatten) : removeL (q.set n (q[n] ++ [t])) t = (q, 0) := by
  have hq : t ∉ q[n] := fun hx => hn (by rw [split_at q n h]; simp only [List.flatten_append, List.flatten_cons, List.mem_append]; exact .inr (.inl hx))
  rw [removeL, mayQ_put hm h ht hn, if_neg (by simp), if_neg (fun h => h ht), findP_put h hn]
  have hg : (q.set n (q[n] ++ [t])).getD n [] = q[n] ++ [t] := by simp [h]
  simp only [hg, idx_put hq, Int.toNat_natCast]
  rw [List.eraseIdx_append_of_length_le (Nat.le_refl _)]
  simp

theorem find_put {q : List (List Int)} {n : Nat} {t : Int} (hm : mayQ q = true) (h : n < q.length) (ht : 0 ≤ t ∧ t < 32) (hn : t ∉ q.flatten) : findD (q.set n (q[n] ++ [t])) t = .tuple [dI n, dI q[n].length, .bool true] := by
  have hq : t ∉ q[n] := fun hx => hn (by rw [split_at q n h]; simp only [List.flatten_append, List.flatten_cons, List.mem_append]; exact .inr (.inl hx))
  have hg : (q.set n (q[n] ++ [t])).getD n [] = q[n] ++ [t] := by simp [h]
  rw [findD, mayQ_put hm h ht hn, if_pos rfl, findP_put h hn]
  simp only [hg, idx_put hq]

theorem take_put {q : List (List Int)} {n : Nat} {t : Int} (hm : mayQ q = true) (h : n < q.length) (ht : 0 ≤ t ∧ t < 32) (hn : t ∉ q.flatten) :
    takeL (q.set n (q[n] ++ [t])) n = match q[n] with
      | [] => (q, t, 0)
      | u :: l => (q.set n (l ++ [t]), u, 0) := by
  have hc : chk (q.set n (q[n] ++ [t])) n 0 = 0 := by
    rw [chk, mayQ_put hm h ht hn, if_pos rfl, if_pos (by simp; omega)]
  have hg : (q.set n (q[n] ++ [t])).getD n [] = q[n] ++ [t] := by simp [h]
  rw [takeL, hc, if_neg (by simp), Int.toNat_natCast, hg]
  cases hq : q[n] with
  | nil =>
    simp only [List.nil_append, List.set_set]
    have : q.set n [] = q := by rw [← hq]; simp
    rw [this]
  | cons u l => simp
end Go.Dl
