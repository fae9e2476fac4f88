/- The data level and the contracts of the functions that are reached (part 5). -/
import Derived.Test.YtbefgogblpebfaaDoorProg
import Derived.KernelRfl
import Derived.Lib.ItoaMem
import Derived.Lib.LaidTab
import Derived.Lib.ItoaLen
import Derived.Test.YtbefgogblpebfaaDoorQd
set_option linter.unusedSimpArgs false
set_option linter.unusedVariables false
-- Facts on the types of this seat, each by the kernel. MADE BY PROGRAM (facts.py).
namespace Go.Dl
open Go Go.Proofs
theorem cells_0 : Tryd.prog.cellsOf 0 = 1 := by kernel_rfl
theorem bytes_0 : Tryd.prog.bytesOf 0 = 0 := by kernel_rfl
theorem info_0 : (Tryd.prog.info? 0).isSome = true := by kernel_rfl
theorem agg_0 : aggB Tryd.prog 0 = some false := by kernel_rfl
theorem zero_0 : zeroOf Tryd.prog 0 = some (.tuple []) := by kernel_rfl
theorem cells_1 : Tryd.prog.cellsOf 1 = 1 := by kernel_rfl
theorem bytes_1 : Tryd.prog.bytesOf 1 = 8 := by kernel_rfl
theorem info_1 : (Tryd.prog.info? 1).isSome = true := by kernel_rfl
theorem agg_1 : aggB Tryd.prog 1 = some false := by kernel_rfl
theorem zero_1 : zeroOf Tryd.prog 1 = some (.nilFunc) := by kernel_rfl
theorem cells_2 : Tryd.prog.cellsOf 2 = 1 := by kernel_rfl
theorem bytes_2 : Tryd.prog.bytesOf 2 = 8 := by kernel_rfl
theorem info_2 : (Tryd.prog.info? 2).isSome = true := by kernel_rfl
theorem agg_2 : aggB Tryd.prog 2 = some false := by kernel_rfl
theorem zero_2 : zeroOf Tryd.prog 2 = some (.int .i64 0) := by kernel_rfl
theorem cells_3 : Tryd.prog.cellsOf 3 = 1 := by kernel_rfl
theorem bytes_3 : Tryd.prog.bytesOf 3 = 8 := by kernel_rfl
theorem info_3 : (Tryd.prog.info? 3).isSome = true := by kernel_rfl
theorem agg_3 : aggB Tryd.prog 3 = some false := by kernel_rfl
theorem zero_3 : zeroOf Tryd.prog 3 = some (.int .i64 0) := by kernel_rfl
theorem cells_4 : Tryd.prog.cellsOf 4 = 1 := by kernel_rfl
theorem bytes_4 : Tryd.prog.bytesOf 4 = 1 := by kernel_rfl
theorem info_4 : (Tryd.prog.info? 4).isSome = true := by kernel_rfl
theorem agg_4 : aggB Tryd.prog 4 = some false := by kernel_rfl
theorem zero_4 : zeroOf Tryd.prog 4 = some (.bool false) := by kernel_rfl
theorem cells_5 : Tryd.prog.cellsOf 5 = 1 := by kernel_rfl
theorem bytes_5 : Tryd.prog.bytesOf 5 = 1 := by kernel_rfl
theorem info_5 : (Tryd.prog.info? 5).isSome = true := by kernel_rfl
theorem agg_5 : aggB Tryd.prog 5 = some false := by kernel_rfl
theorem zero_5 : zeroOf Tryd.prog 5 = some (.int .u8 0) := by kernel_rfl
theorem cells_6 : Tryd.prog.cellsOf 6 = 1 := by kernel_rfl
theorem bytes_6 : Tryd.prog.bytesOf 6 = 1 := by kernel_rfl
theorem info_6 : (Tryd.prog.info? 6).isSome = true := by kernel_rfl
theorem agg_6 : aggB Tryd.prog 6 = some false := by kernel_rfl
theorem zero_6 : zeroOf Tryd.prog 6 = some (.int .u8 0) := by kernel_rfl
theorem cells_7 : Tryd.prog.cellsOf 7 = 4 := by kernel_rfl
theorem bytes_7 : Tryd.prog.bytesOf 7 = 24 := by kernel_rfl
theorem info_7 : (Tryd.prog.info? 7).isSome = true := by kernel_rfl
theorem agg_7 : aggB Tryd.prog 7 = some true := by kernel_rfl
theorem bok_7 : buildOk Tryd.prog 7 = true := by kernel_rfl
theorem zero_7 : zeroOf Tryd.prog 7 = some (.agg [.int .i64 0, .int .i64 0, .bool false, .int .u8 0]) := by kernel_rfl
theorem cells_8 : Tryd.prog.cellsOf 8 = 4 := by kernel_rfl
theorem bytes_8 : Tryd.prog.bytesOf 8 = 24 := by kernel_rfl
theorem info_8 : (Tryd.prog.info? 8).isSome = true := by kernel_rfl
theorem agg_8 : aggB Tryd.prog 8 = some true := by kernel_rfl
theorem bok_8 : buildOk Tryd.prog 8 = true := by kernel_rfl
theorem zero_8 : zeroOf Tryd.prog 8 = some (.agg [.int .i64 0, .int .i64 0, .bool false, .int .u8 0]) := by kernel_rfl
theorem cells_9 : Tryd.prog.cellsOf 9 = 1 := by kernel_rfl
theorem bytes_9 : Tryd.prog.bytesOf 9 = 16 := by kernel_rfl
theorem info_9 : (Tryd.prog.info? 9).isSome = true := by kernel_rfl
theorem agg_9 : aggB Tryd.prog 9 = some false := by kernel_rfl
theorem zero_9 : zeroOf Tryd.prog 9 = some (.str []) := by kernel_rfl
theorem cells_10 : Tryd.prog.cellsOf 10 = 1 := by kernel_rfl
theorem bytes_10 : Tryd.prog.bytesOf 10 = 16 := by kernel_rfl
theorem info_10 : (Tryd.prog.info? 10).isSome = true := by kernel_rfl
theorem agg_10 : aggB Tryd.prog 10 = some false := by kernel_rfl
theorem zero_10 : zeroOf Tryd.prog 10 = some (.str []) := by kernel_rfl
theorem cells_11 : Tryd.prog.cellsOf 11 = 1 := by kernel_rfl
theorem bytes_11 : Tryd.prog.bytesOf 11 = 16 := by kernel_rfl
theorem info_11 : (Tryd.prog.info? 11).isSome = true := by kernel_rfl
theorem agg_11 : aggB Tryd.prog 11 = some false := by kernel_rfl
theorem zero_11 : zeroOf Tryd.prog 11 = some (.str []) := by kernel_rfl
theorem cells_12 : Tryd.prog.cellsOf 12 = 1 := by kernel_rfl
theorem bytes_12 : Tryd.prog.bytesOf 12 = 8 := by kernel_rfl
theorem info_12 : (Tryd.prog.info? 12).isSome = true := by kernel_rfl
theorem agg_12 : aggB Tryd.prog 12 = some false := by kernel_rfl
theorem zero_12 : zeroOf Tryd.prog 12 = some (.int .u64 0) := by kernel_rfl
theorem cells_13 : Tryd.prog.cellsOf 13 = 2 := by kernel_rfl
theorem bytes_13 : Tryd.prog.bytesOf 13 = 24 := by kernel_rfl
theorem info_13 : (Tryd.prog.info? 13).isSome = true := by kernel_rfl
theorem agg_13 : aggB Tryd.prog 13 = some true := by kernel_rfl
theorem bok_13 : buildOk Tryd.prog 13 = true := by kernel_rfl
theorem zero_13 : zeroOf Tryd.prog 13 = some (.agg [.str [], .int .u64 0]) := by kernel_rfl
theorem cells_14 : Tryd.prog.cellsOf 14 = 2 := by kernel_rfl
theorem bytes_14 : Tryd.prog.bytesOf 14 = 24 := by kernel_rfl
theorem info_14 : (Tryd.prog.info? 14).isSome = true := by kernel_rfl
theorem agg_14 : aggB Tryd.prog 14 = some true := by kernel_rfl
theorem bok_14 : buildOk Tryd.prog 14 = true := by kernel_rfl
theorem zero_14 : zeroOf Tryd.prog 14 = some (.agg [.str [], .int .u64 0]) := by kernel_rfl
theorem cells_15 : Tryd.prog.cellsOf 15 = 1 := by kernel_rfl
theorem bytes_15 : Tryd.prog.bytesOf 15 = 8 := by kernel_rfl
theorem info_15 : (Tryd.prog.info? 15).isSome = true := by kernel_rfl
theorem agg_15 : aggB Tryd.prog 15 = some false := by kernel_rfl
theorem zero_15 : zeroOf Tryd.prog 15 = some (.nilPtr) := by kernel_rfl
theorem cells_16 : Tryd.prog.cellsOf 16 = 1 := by kernel_rfl
theorem bytes_16 : Tryd.prog.bytesOf 16 = 8 := by kernel_rfl
theorem info_16 : (Tryd.prog.info? 16).isSome = true := by kernel_rfl
theorem agg_16 : aggB Tryd.prog 16 = some false := by kernel_rfl
theorem zero_16 : zeroOf Tryd.prog 16 = some (.nilPtr) := by kernel_rfl
theorem cells_17 : Tryd.prog.cellsOf 17 = 1 := by kernel_rfl
theorem bytes_17 : Tryd.prog.bytesOf 17 = 8 := by kernel_rfl
theorem info_17 : (Tryd.prog.info? 17).isSome = true := by kernel_rfl
theorem agg_17 : aggB Tryd.prog 17 = some false := by kernel_rfl
theorem zero_17 : zeroOf Tryd.prog 17 = some (.nilPtr) := by kernel_rfl
theorem cells_18 : Tryd.prog.cellsOf 18 = 1 := by kernel_rfl
theorem bytes_18 : Tryd.prog.bytesOf 18 = 8 := by kernel_rfl
theorem info_18 : (Tryd.prog.info? 18).isSome = true := by kernel_rfl
theorem agg_18 : aggB Tryd.prog 18 = some true := by kernel_rfl
theorem bok_18 : buildOk Tryd.prog 18 = true := by kernel_rfl
theorem zero_18 : zeroOf Tryd.prog 18 = some (.agg [.nilPtr]) := by kernel_rfl
theorem cells_19 : Tryd.prog.cellsOf 19 = 1 := by kernel_rfl
theorem bytes_19 : Tryd.prog.bytesOf 19 = 8 := by kernel_rfl
theorem info_19 : (Tryd.prog.info? 19).isSome = true := by kernel_rfl
theorem agg_19 : aggB Tryd.prog 19 = some true := by kernel_rfl
theorem bok_19 : buildOk Tryd.prog 19 = true := by kernel_rfl
theorem zero_19 : zeroOf Tryd.prog 19 = some (.agg [.nilPtr]) := by kernel_rfl
theorem cells_20 : Tryd.prog.cellsOf 20 = 1 := by kernel_rfl
theorem bytes_20 : Tryd.prog.bytesOf 20 = 16 := by kernel_rfl
theorem info_20 : (Tryd.prog.info? 20).isSome = true := by kernel_rfl
theorem agg_20 : aggB Tryd.prog 20 = some false := by kernel_rfl
theorem zero_20 : zeroOf Tryd.prog 20 = some (.nilIface) := by kernel_rfl
theorem cells_21 : Tryd.prog.cellsOf 21 = 1 := by kernel_rfl
theorem bytes_21 : Tryd.prog.bytesOf 21 = 4 := by kernel_rfl
theorem info_21 : (Tryd.prog.info? 21).isSome = true := by kernel_rfl
theorem agg_21 : aggB Tryd.prog 21 = some false := by kernel_rfl
theorem zero_21 : zeroOf Tryd.prog 21 = some (.int .i32 0) := by kernel_rfl
theorem cells_22 : Tryd.prog.cellsOf 22 = 58 := by kernel_rfl
theorem bytes_22 : Tryd.prog.bytesOf 22 = 464 := by kernel_rfl
theorem info_22 : (Tryd.prog.info? 22).isSome = true := by kernel_rfl
theorem agg_22 : aggB Tryd.prog 22 = some true := by kernel_rfl
theorem bok_22 : buildOk Tryd.prog 22 = true := by kernel_rfl
theorem zero_22 : zeroOf Tryd.prog 22 = some (.agg [.int .i64 0, .int .i64 0, .int .i64 0, .int .i64 0, .int .i64 0, .int .i64 0, .int .i64 0, .int .i64 0, .int .i64 0, .int .i64 0, .int .i64 0, .int .i64 0, .int .i64 0, .int .i64 0, .int .i64 0, .int .i64 0, .int .i64 0, .int .i64 0, .int .i64 0, .int .i64 0, .int .i64 0, .int .i64 0, .int .i64 0, .int .i64 0, .int .i64 0, .int .i64 0, .int .i64 0, .int .i64 0, .int .i64 0, .int .i64 0, .int .i64 0, .int .i64 0, .int .i64 0, .int .i64 0, .int .i64 0, .int .i64 0, .int .i64 0, .int .i64 0, .int .i64 0, .int .i64 0, .int .i64 0, .int .i64 0, .int .i64 0, .int .i64 0, .int .i64 0, .int .i64 0, .int .i64 0, .int .i64 0, .int .i64 0, .int .i64 0, .int .i64 0, .int .i64 0, .int .i64 0, .int .i64 0, .int .i64 0, .int .i64 0, .int .i64 0, .int .i64 0]) := by kernel_rfl
theorem cells_23 : Tryd.prog.cellsOf 23 = 58 := by kernel_rfl
theorem bytes_23 : Tryd.prog.bytesOf 23 = 464 := by kernel_rfl
theorem info_23 : (Tryd.prog.info? 23).isSome = true := by kernel_rfl
theorem agg_23 : aggB Tryd.prog 23 = some true := by kernel_rfl
theorem bok_23 : buildOk Tryd.prog 23 = true := by kernel_rfl
theorem zero_23 : zeroOf Tryd.prog 23 = some (.agg [.int .i64 0, .int .i64 0, .int .i64 0, .int .i64 0, .int .i64 0, .int .i64 0, .int .i64 0, .int .i64 0, .int .i64 0, .int .i64 0, .int .i64 0, .int .i64 0, .int .i64 0, .int .i64 0, .int .i64 0, .int .i64 0, .int .i64 0, .int .i64 0, .int .i64 0, .int .i64 0, .int .i64 0, .int .i64 0, .int .i64 0, .int .i64 0, .int .i64 0, .int .i64 0, .int .i64 0, .int .i64 0, .int .i64 0, .int .i64 0, .int .i64 0, .int .i64 0, .int .i64 0, .int .i64 0, .int .i64 0, .int .i64 0, .int .i64 0, .int .i64 0, .int .i64 0, .int .i64 0, .int .i64 0, .int .i64 0, .int .i64 0, .int .i64 0, .int .i64 0, .int .i64 0, .int .i64 0, .int .i64 0, .int .i64 0, .int .i64 0, .int .i64 0, .int .i64 0, .int .i64 0, .int .i64 0, .int .i64 0, .int .i64 0, .int .i64 0, .int .i64 0]) := by kernel_rfl
theorem cells_24 : Tryd.prog.cellsOf 24 = 1 := by kernel_rfl
theorem bytes_24 : Tryd.prog.bytesOf 24 = 1 := by kernel_rfl
theorem info_24 : (Tryd.prog.info? 24).isSome = true := by kernel_rfl
theorem agg_24 : aggB Tryd.prog 24 = some false := by kernel_rfl
theorem zero_24 : zeroOf Tryd.prog 24 = some (.int .u8 0) := by kernel_rfl
theorem cells_25 : Tryd.prog.cellsOf 25 = 1 := by kernel_rfl
theorem bytes_25 : Tryd.prog.bytesOf 25 = 8 := by kernel_rfl
theorem info_25 : (Tryd.prog.info? 25).isSome = true := by kernel_rfl
theorem agg_25 : aggB Tryd.prog 25 = some false := by kernel_rfl
theorem zero_25 : zeroOf Tryd.prog 25 = some (.int .i64 0) := by kernel_rfl
theorem cells_26 : Tryd.prog.cellsOf 26 = 1 := by kernel_rfl
theorem bytes_26 : Tryd.prog.bytesOf 26 = 0 := by kernel_rfl
theorem info_26 : (Tryd.prog.info? 26).isSome = true := by kernel_rfl
theorem agg_26 : aggB Tryd.prog 26 = some false := by kernel_rfl
theorem zero_26 : zeroOf Tryd.prog 26 = some (.tuple [.int .i64 0, .int .i64 0]) := by kernel_rfl
theorem cells_27 : Tryd.prog.cellsOf 27 = 1 := by kernel_rfl
theorem bytes_27 : Tryd.prog.bytesOf 27 = 8 := by kernel_rfl
theorem info_27 : (Tryd.prog.info? 27).isSome = true := by kernel_rfl
theorem agg_27 : aggB Tryd.prog 27 = some false := by kernel_rfl
theorem zero_27 : zeroOf Tryd.prog 27 = some (.nilFunc) := by kernel_rfl
theorem cells_28 : Tryd.prog.cellsOf 28 = 1 := by kernel_rfl
theorem bytes_28 : Tryd.prog.bytesOf 28 = 0 := by kernel_rfl
theorem info_28 : (Tryd.prog.info? 28).isSome = true := by kernel_rfl
theorem agg_28 : aggB Tryd.prog 28 = some false := by kernel_rfl
theorem zero_28 : zeroOf Tryd.prog 28 = some (.tuple [.int .i64 0, .int .i64 0]) := by kernel_rfl
theorem cells_29 : Tryd.prog.cellsOf 29 = 1 := by kernel_rfl
theorem bytes_29 : Tryd.prog.bytesOf 29 = 8 := by kernel_rfl
theorem info_29 : (Tryd.prog.info? 29).isSome = true := by kernel_rfl
theorem agg_29 : aggB Tryd.prog 29 = some false := by kernel_rfl
theorem zero_29 : zeroOf Tryd.prog 29 = some (.nilFunc) := by kernel_rfl
theorem cells_30 : Tryd.prog.cellsOf 30 = 1 := by kernel_rfl
theorem bytes_30 : Tryd.prog.bytesOf 30 = 8 := by kernel_rfl
theorem info_30 : (Tryd.prog.info? 30).isSome = true := by kernel_rfl
theorem agg_30 : aggB Tryd.prog 30 = some false := by kernel_rfl
theorem zero_30 : zeroOf Tryd.prog 30 = some (.nilFunc) := by kernel_rfl
theorem cells_31 : Tryd.prog.cellsOf 31 = 1 := by kernel_rfl
theorem bytes_31 : Tryd.prog.bytesOf 31 = 8 := by kernel_rfl
theorem info_31 : (Tryd.prog.info? 31).isSome = true := by kernel_rfl
theorem agg_31 : aggB Tryd.prog 31 = some false := by kernel_rfl
theorem zero_31 : zeroOf Tryd.prog 31 = some (.nilFunc) := by kernel_rfl
theorem cells_32 : Tryd.prog.cellsOf 32 = 1 := by kernel_rfl
theorem bytes_32 : Tryd.prog.bytesOf 32 = 8 := by kernel_rfl
theorem info_32 : (Tryd.prog.info? 32).isSome = true := by kernel_rfl
theorem agg_32 : aggB Tryd.prog 32 = some false := by kernel_rfl
theorem zero_32 : zeroOf Tryd.prog 32 = some (.nilFunc) := by kernel_rfl
theorem cells_33 : Tryd.prog.cellsOf 33 = 1 := by kernel_rfl
theorem bytes_33 : Tryd.prog.bytesOf 33 = 8 := by kernel_rfl
theorem info_33 : (Tryd.prog.info? 33).isSome = true := by kernel_rfl
theorem agg_33 : aggB Tryd.prog 33 = some false := by kernel_rfl
theorem zero_33 : zeroOf Tryd.prog 33 = some (.nilFunc) := by kernel_rfl
theorem cells_34 : Tryd.prog.cellsOf 34 = 1 := by kernel_rfl
theorem bytes_34 : Tryd.prog.bytesOf 34 = 8 := by kernel_rfl
theorem info_34 : (Tryd.prog.info? 34).isSome = true := by kernel_rfl
theorem agg_34 : aggB Tryd.prog 34 = some false := by kernel_rfl
theorem zero_34 : zeroOf Tryd.prog 34 = some (.nilFunc) := by kernel_rfl
theorem cells_35 : Tryd.prog.cellsOf 35 = 1 := by kernel_rfl
theorem bytes_35 : Tryd.prog.bytesOf 35 = 8 := by kernel_rfl
theorem info_35 : (Tryd.prog.info? 35).isSome = true := by kernel_rfl
theorem agg_35 : aggB Tryd.prog 35 = some false := by kernel_rfl
theorem zero_35 : zeroOf Tryd.prog 35 = some (.nilFunc) := by kernel_rfl
theorem cells_36 : Tryd.prog.cellsOf 36 = 1 := by kernel_rfl
theorem bytes_36 : Tryd.prog.bytesOf 36 = 24 := by kernel_rfl
theorem info_36 : (Tryd.prog.info? 36).isSome = true := by kernel_rfl
theorem agg_36 : aggB Tryd.prog 36 = some false := by kernel_rfl
theorem zero_36 : zeroOf Tryd.prog 36 = some (.nilSlice) := by kernel_rfl
theorem cells_37 : Tryd.prog.cellsOf 37 = 1 := by kernel_rfl
theorem bytes_37 : Tryd.prog.bytesOf 37 = 8 := by kernel_rfl
theorem info_37 : (Tryd.prog.info? 37).isSome = true := by kernel_rfl
theorem agg_37 : aggB Tryd.prog 37 = some false := by kernel_rfl
theorem zero_37 : zeroOf Tryd.prog 37 = some (.nilFunc) := by kernel_rfl
theorem cells_38 : Tryd.prog.cellsOf 38 = 1 := by kernel_rfl
theorem bytes_38 : Tryd.prog.bytesOf 38 = 8 := by kernel_rfl
theorem info_38 : (Tryd.prog.info? 38).isSome = true := by kernel_rfl
theorem agg_38 : aggB Tryd.prog 38 = some false := by kernel_rfl
theorem zero_38 : zeroOf Tryd.prog 38 = some (.nilFunc) := by kernel_rfl
theorem cells_39 : Tryd.prog.cellsOf 39 = 1 := by kernel_rfl
theorem bytes_39 : Tryd.prog.bytesOf 39 = 8 := by kernel_rfl
theorem info_39 : (Tryd.prog.info? 39).isSome = true := by kernel_rfl
theorem agg_39 : aggB Tryd.prog 39 = some false := by kernel_rfl
theorem zero_39 : zeroOf Tryd.prog 39 = some (.nilFunc) := by kernel_rfl
theorem cells_40 : Tryd.prog.cellsOf 40 = 1 := by kernel_rfl
theorem bytes_40 : Tryd.prog.bytesOf 40 = 0 := by kernel_rfl
theorem info_40 : (Tryd.prog.info? 40).isSome = true := by kernel_rfl
theorem agg_40 : aggB Tryd.prog 40 = some false := by kernel_rfl
theorem zero_40 : zeroOf Tryd.prog 40 = some (.tuple [.str [], .int .i64 0]) := by kernel_rfl
theorem cells_41 : Tryd.prog.cellsOf 41 = 1 := by kernel_rfl
theorem bytes_41 : Tryd.prog.bytesOf 41 = 8 := by kernel_rfl
theorem info_41 : (Tryd.prog.info? 41).isSome = true := by kernel_rfl
theorem agg_41 : aggB Tryd.prog 41 = some false := by kernel_rfl
theorem zero_41 : zeroOf Tryd.prog 41 = some (.nilFunc) := by kernel_rfl
theorem cells_42 : Tryd.prog.cellsOf 42 = 1 := by kernel_rfl
theorem bytes_42 : Tryd.prog.bytesOf 42 = 0 := by kernel_rfl
theorem info_42 : (Tryd.prog.info? 42).isSome = true := by kernel_rfl
theorem agg_42 : aggB Tryd.prog 42 = some false := by kernel_rfl
theorem zero_42 : zeroOf Tryd.prog 42 = some (.tuple [.str [], .int .i64 0]) := by kernel_rfl
theorem cells_43 : Tryd.prog.cellsOf 43 = 1 := by kernel_rfl
theorem bytes_43 : Tryd.prog.bytesOf 43 = 8 := by kernel_rfl
theorem info_43 : (Tryd.prog.info? 43).isSome = true := by kernel_rfl
theorem agg_43 : aggB Tryd.prog 43 = some false := by kernel_rfl
theorem zero_43 : zeroOf Tryd.prog 43 = some (.nilFunc) := by kernel_rfl
theorem cells_44 : Tryd.prog.cellsOf 44 = 1 := by kernel_rfl
theorem bytes_44 : Tryd.prog.bytesOf 44 = 0 := by kernel_rfl
theorem info_44 : (Tryd.prog.info? 44).isSome = true := by kernel_rfl
theorem agg_44 : aggB Tryd.prog 44 = some false := by kernel_rfl
theorem zero_44 : zeroOf Tryd.prog 44 = some (.tuple [.agg [.int .i64 0, .int .i64 0, .int .i64 0, .int .i64 0, .int .i64 0, .int .i64 0, .int .i64 0, .int .i64 0, .int .i64 0, .int .i64 0, .int .i64 0, .int .i64 0, .int .i64 0, .int .i64 0, .int .i64 0, .int .i64 0, .int .i64 0, .int .i64 0, .int .i64 0, .int .i64 0, .int .i64 0, .int .i64 0, .int .i64 0, .int .i64 0, .int .i64 0, .int .i64 0, .int .i64 0, .int .i64 0, .int .i64 0, .int .i64 0, .int .i64 0, .int .i64 0, .int .i64 0, .int .i64 0, .int .i64 0, .int .i64 0, .int .i64 0, .int .i64 0, .int .i64 0, .int .i64 0, .int .i64 0, .int .i64 0, .int .i64 0, .int .i64 0, .int .i64 0, .int .i64 0, .int .i64 0, .int .i64 0, .int .i64 0, .int .i64 0, .int .i64 0, .int .i64 0, .int .i64 0, .int .i64 0, .int .i64 0, .int .i64 0, .int .i64 0, .int .i64 0], .int .i64 0]) := by kernel_rfl
theorem cells_45 : Tryd.prog.cellsOf 45 = 1 := by kernel_rfl
theorem bytes_45 : Tryd.prog.bytesOf 45 = 8 := by kernel_rfl
theorem info_45 : (Tryd.prog.info? 45).isSome = true := by kernel_rfl
theorem agg_45 : aggB Tryd.prog 45 = some false := by kernel_rfl
theorem zero_45 : zeroOf Tryd.prog 45 = some (.nilFunc) := by kernel_rfl
theorem cells_46 : Tryd.prog.cellsOf 46 = 1 := by kernel_rfl
theorem bytes_46 : Tryd.prog.bytesOf 46 = 0 := by kernel_rfl
theorem info_46 : (Tryd.prog.info? 46).isSome = true := by kernel_rfl
theorem agg_46 : aggB Tryd.prog 46 = some false := by kernel_rfl
theorem zero_46 : zeroOf Tryd.prog 46 = some (.tuple [.agg [.int .i64 0, .int .i64 0, .int .i64 0, .int .i64 0, .int .i64 0, .int .i64 0, .int .i64 0, .int .i64 0, .int .i64 0, .int .i64 0, .int .i64 0, .int .i64 0, .int .i64 0, .int .i64 0, .int .i64 0, .int .i64 0, .int .i64 0, .int .i64 0, .int .i64 0, .int .i64 0, .int .i64 0, .int .i64 0, .int .i64 0, .int .i64 0, .int .i64 0, .int .i64 0, .int .i64 0, .int .i64 0, .int .i64 0, .int .i64 0, .int .i64 0, .int .i64 0, .int .i64 0, .int .i64 0, .int .i64 0, .int .i64 0, .int .i64 0, .int .i64 0, .int .i64 0, .int .i64 0, .int .i64 0, .int .i64 0, .int .i64 0, .int .i64 0, .int .i64 0, .int .i64 0, .int .i64 0, .int .i64 0, .int .i64 0, .int .i64 0, .int .i64 0, .int .i64 0, .int .i64 0, .int .i64 0, .int .i64 0, .int .i64 0, .int .i64 0, .int .i64 0], .int .i64 0]) := by kernel_rfl
theorem cells_47 : Tryd.prog.cellsOf 47 = 1 := by kernel_rfl
theorem bytes_47 : Tryd.prog.bytesOf 47 = 8 := by kernel_rfl
theorem info_47 : (Tryd.prog.info? 47).isSome = true := by kernel_rfl
theorem agg_47 : aggB Tryd.prog 47 = some false := by kernel_rfl
theorem zero_47 : zeroOf Tryd.prog 47 = some (.nilFunc) := by kernel_rfl
theorem cells_48 : Tryd.prog.cellsOf 48 = 1 := by kernel_rfl
theorem bytes_48 : Tryd.prog.bytesOf 48 = 8 := by kernel_rfl
theorem info_48 : (Tryd.prog.info? 48).isSome = true := by kernel_rfl
theorem agg_48 : aggB Tryd.prog 48 = some false := by kernel_rfl
theorem zero_48 : zeroOf Tryd.prog 48 = some (.nilFunc) := by kernel_rfl
theorem cells_49 : Tryd.prog.cellsOf 49 = 1 := by kernel_rfl
theorem bytes_49 : Tryd.prog.bytesOf 49 = 8 := by kernel_rfl
theorem info_49 : (Tryd.prog.info? 49).isSome = true := by kernel_rfl
theorem agg_49 : aggB Tryd.prog 49 = some false := by kernel_rfl
theorem zero_49 : zeroOf Tryd.prog 49 = some (.int .u64 0) := by kernel_rfl
theorem cells_50 : Tryd.prog.cellsOf 50 = 1 := by kernel_rfl
theorem bytes_50 : Tryd.prog.bytesOf 50 = 8 := by kernel_rfl
theorem info_50 : (Tryd.prog.info? 50).isSome = true := by kernel_rfl
theorem agg_50 : aggB Tryd.prog 50 = some false := by kernel_rfl
theorem zero_50 : zeroOf Tryd.prog 50 = some (.int .u64 0) := by kernel_rfl
theorem cells_51 : Tryd.prog.cellsOf 51 = 1 := by kernel_rfl
theorem bytes_51 : Tryd.prog.bytesOf 51 = 8 := by kernel_rfl
theorem info_51 : (Tryd.prog.info? 51).isSome = true := by kernel_rfl
theorem agg_51 : aggB Tryd.prog 51 = some false := by kernel_rfl
theorem zero_51 : zeroOf Tryd.prog 51 = some (.nilFunc) := by kernel_rfl
theorem cells_52 : Tryd.prog.cellsOf 52 = 7 := by kernel_rfl
theorem bytes_52 : Tryd.prog.bytesOf 52 = 56 := by kernel_rfl
theorem info_52 : (Tryd.prog.info? 52).isSome = true := by kernel_rfl
theorem agg_52 : aggB Tryd.prog 52 = some true := by kernel_rfl
theorem bok_52 : buildOk Tryd.prog 52 = true := by kernel_rfl
theorem zero_52 : zeroOf Tryd.prog 52 = some (.agg [.int .u8 0, .int .i64 0, .int .i64 0, .int .i64 0, .int .i64 0, .int .i64 0, .int .i64 0]) := by kernel_rfl
theorem cells_53 : Tryd.prog.cellsOf 53 = 7 := by kernel_rfl
theorem bytes_53 : Tryd.prog.bytesOf 53 = 56 := by kernel_rfl
theorem info_53 : (Tryd.prog.info? 53).isSome = true := by kernel_rfl
theorem agg_53 : aggB Tryd.prog 53 = some true := by kernel_rfl
theorem bok_53 : buildOk Tryd.prog 53 = true := by kernel_rfl
theorem zero_53 : zeroOf Tryd.prog 53 = some (.agg [.int .u8 0, .int .i64 0, .int .i64 0, .int .i64 0, .int .i64 0, .int .i64 0, .int .i64 0]) := by kernel_rfl
theorem cells_54 : Tryd.prog.cellsOf 54 = 1 := by kernel_rfl
theorem bytes_54 : Tryd.prog.bytesOf 54 = 8 := by kernel_rfl
theorem info_54 : (Tryd.prog.info? 54).isSome = true := by kernel_rfl
theorem agg_54 : aggB Tryd.prog 54 = some false := by kernel_rfl
theorem zero_54 : zeroOf Tryd.prog 54 = some (.nilFunc) := by kernel_rfl
theorem cells_55 : Tryd.prog.cellsOf 55 = 1 := by kernel_rfl
theorem bytes_55 : Tryd.prog.bytesOf 55 = 8 := by kernel_rfl
theorem info_55 : (Tryd.prog.info? 55).isSome = true := by kernel_rfl
theorem agg_55 : aggB Tryd.prog 55 = some false := by kernel_rfl
theorem zero_55 : zeroOf Tryd.prog 55 = some (.nilFunc) := by kernel_rfl
theorem cells_56 : Tryd.prog.cellsOf 56 = 1 := by kernel_rfl
theorem bytes_56 : Tryd.prog.bytesOf 56 = 0 := by kernel_rfl
theorem info_56 : (Tryd.prog.info? 56).isSome = true := by kernel_rfl
theorem agg_56 : aggB Tryd.prog 56 = some false := by kernel_rfl
theorem zero_56 : zeroOf Tryd.prog 56 = some (.tuple [.nilSlice, .int .i64 0]) := by kernel_rfl
theorem cells_57 : Tryd.prog.cellsOf 57 = 1 := by kernel_rfl
theorem bytes_57 : Tryd.prog.bytesOf 57 = 8 := by kernel_rfl
theorem info_57 : (Tryd.prog.info? 57).isSome = true := by kernel_rfl
theorem agg_57 : aggB Tryd.prog 57 = some false := by kernel_rfl
theorem zero_57 : zeroOf Tryd.prog 57 = some (.nilFunc) := by kernel_rfl
theorem cells_58 : Tryd.prog.cellsOf 58 = 1 := by kernel_rfl
theorem bytes_58 : Tryd.prog.bytesOf 58 = 0 := by kernel_rfl
theorem info_58 : (Tryd.prog.info? 58).isSome = true := by kernel_rfl
theorem agg_58 : aggB Tryd.prog 58 = some false := by kernel_rfl
theorem zero_58 : zeroOf Tryd.prog 58 = some (.tuple [.nilSlice, .int .i64 0]) := by kernel_rfl
theorem cells_59 : Tryd.prog.cellsOf 59 = 1 := by kernel_rfl
theorem bytes_59 : Tryd.prog.bytesOf 59 = 8 := by kernel_rfl
theorem info_59 : (Tryd.prog.info? 59).isSome = true := by kernel_rfl
theorem agg_59 : aggB Tryd.prog 59 = some false := by kernel_rfl
theorem zero_59 : zeroOf Tryd.prog 59 = some (.nilFunc) := by kernel_rfl
theorem cells_60 : Tryd.prog.cellsOf 60 = 1 := by kernel_rfl
theorem bytes_60 : Tryd.prog.bytesOf 60 = 8 := by kernel_rfl
theorem info_60 : (Tryd.prog.info? 60).isSome = true := by kernel_rfl
theorem agg_60 : aggB Tryd.prog 60 = some false := by kernel_rfl
theorem zero_60 : zeroOf Tryd.prog 60 = some (.nilFunc) := by kernel_rfl
theorem cells_61 : Tryd.prog.cellsOf 61 = 1 := by kernel_rfl
theorem bytes_61 : Tryd.prog.bytesOf 61 = 0 := by kernel_rfl
theorem info_61 : (Tryd.prog.info? 61).isSome = true := by kernel_rfl
theorem agg_61 : aggB Tryd.prog 61 = some false := by kernel_rfl
theorem zero_61 : zeroOf Tryd.prog 61 = some (.tuple [.str [], .bool false]) := by kernel_rfl
theorem cells_62 : Tryd.prog.cellsOf 62 = 1 := by kernel_rfl
theorem bytes_62 : Tryd.prog.bytesOf 62 = 8 := by kernel_rfl
theorem info_62 : (Tryd.prog.info? 62).isSome = true := by kernel_rfl
theorem agg_62 : aggB Tryd.prog 62 = some false := by kernel_rfl
theorem zero_62 : zeroOf Tryd.prog 62 = some (.nilFunc) := by kernel_rfl
theorem cells_63 : Tryd.prog.cellsOf 63 = 1 := by kernel_rfl
theorem bytes_63 : Tryd.prog.bytesOf 63 = 24 := by kernel_rfl
theorem info_63 : (Tryd.prog.info? 63).isSome = true := by kernel_rfl
theorem agg_63 : aggB Tryd.prog 63 = some false := by kernel_rfl
theorem zero_63 : zeroOf Tryd.prog 63 = some (.nilSlice) := by kernel_rfl
theorem cells_64 : Tryd.prog.cellsOf 64 = 3 := by kernel_rfl
theorem bytes_64 : Tryd.prog.bytesOf 64 = 48 := by kernel_rfl
theorem info_64 : (Tryd.prog.info? 64).isSome = true := by kernel_rfl
theorem agg_64 : aggB Tryd.prog 64 = some true := by kernel_rfl
theorem bok_64 : buildOk Tryd.prog 64 = true := by kernel_rfl
theorem zero_64 : zeroOf Tryd.prog 64 = some (.agg [.int .u8 0, .str [], .nilSlice]) := by kernel_rfl
theorem cells_65 : Tryd.prog.cellsOf 65 = 3 := by kernel_rfl
theorem bytes_65 : Tryd.prog.bytesOf 65 = 48 := by kernel_rfl
theorem info_65 : (Tryd.prog.info? 65).isSome = true := by kernel_rfl
theorem agg_65 : aggB Tryd.prog 65 = some true := by kernel_rfl
theorem bok_65 : buildOk Tryd.prog 65 = true := by kernel_rfl
theorem zero_65 : zeroOf Tryd.prog 65 = some (.agg [.int .u8 0, .str [], .nilSlice]) := by kernel_rfl
theorem cells_66 : Tryd.prog.cellsOf 66 = 1 := by kernel_rfl
theorem bytes_66 : Tryd.prog.bytesOf 66 = 0 := by kernel_rfl
theorem info_66 : (Tryd.prog.info? 66).isSome = true := by kernel_rfl
theorem agg_66 : aggB Tryd.prog 66 = some false := by kernel_rfl
theorem zero_66 : zeroOf Tryd.prog 66 = some (.tuple [.agg [.int .u8 0, .str [], .nilSlice], .bool false]) := by kernel_rfl
theorem cells_67 : Tryd.prog.cellsOf 67 = 1 := by kernel_rfl
theorem bytes_67 : Tryd.prog.bytesOf 67 = 8 := by kernel_rfl
theorem info_67 : (Tryd.prog.info? 67).isSome = true := by kernel_rfl
theorem agg_67 : aggB Tryd.prog 67 = some false := by kernel_rfl
theorem zero_67 : zeroOf Tryd.prog 67 = some (.nilFunc) := by kernel_rfl
theorem cells_68 : Tryd.prog.cellsOf 68 = 1 := by kernel_rfl
theorem bytes_68 : Tryd.prog.bytesOf 68 = 8 := by kernel_rfl
theorem info_68 : (Tryd.prog.info? 68).isSome = true := by kernel_rfl
theorem agg_68 : aggB Tryd.prog 68 = some false := by kernel_rfl
theorem zero_68 : zeroOf Tryd.prog 68 = some (.nilFunc) := by kernel_rfl
theorem cells_69 : Tryd.prog.cellsOf 69 = 1 := by kernel_rfl
theorem bytes_69 : Tryd.prog.bytesOf 69 = 0 := by kernel_rfl
theorem info_69 : (Tryd.prog.info? 69).isSome = true := by kernel_rfl
theorem agg_69 : aggB Tryd.prog 69 = some false := by kernel_rfl
theorem zero_69 : zeroOf Tryd.prog 69 = some (.tuple [.agg [.int .u8 0, .int .i64 0, .int .i64 0, .int .i64 0, .int .i64 0, .int .i64 0, .int .i64 0], .int .i64 0]) := by kernel_rfl
theorem cells_70 : Tryd.prog.cellsOf 70 = 1 := by kernel_rfl
theorem bytes_70 : Tryd.prog.bytesOf 70 = 8 := by kernel_rfl
theorem info_70 : (Tryd.prog.info? 70).isSome = true := by kernel_rfl
theorem agg_70 : aggB Tryd.prog 70 = some false := by kernel_rfl
theorem zero_70 : zeroOf Tryd.prog 70 = some (.nilFunc) := by kernel_rfl
theorem cells_71 : Tryd.prog.cellsOf 71 = 1 := by kernel_rfl
theorem bytes_71 : Tryd.prog.bytesOf 71 = 0 := by kernel_rfl
theorem info_71 : (Tryd.prog.info? 71).isSome = true := by kernel_rfl
theorem agg_71 : aggB Tryd.prog 71 = some false := by kernel_rfl
theorem zero_71 : zeroOf Tryd.prog 71 = some (.tuple [.agg [.int .u8 0, .int .i64 0, .int .i64 0, .int .i64 0, .int .i64 0, .int .i64 0, .int .i64 0], .int .i64 0]) := by kernel_rfl
theorem cells_72 : Tryd.prog.cellsOf 72 = 1 := by kernel_rfl
theorem bytes_72 : Tryd.prog.bytesOf 72 = 8 := by kernel_rfl
theorem info_72 : (Tryd.prog.info? 72).isSome = true := by kernel_rfl
theorem agg_72 : aggB Tryd.prog 72 = some false := by kernel_rfl
theorem zero_72 : zeroOf Tryd.prog 72 = some (.nilFunc) := by kernel_rfl
theorem cells_73 : Tryd.prog.cellsOf 73 = 1 := by kernel_rfl
theorem bytes_73 : Tryd.prog.bytesOf 73 = 0 := by kernel_rfl
theorem info_73 : (Tryd.prog.info? 73).isSome = true := by kernel_rfl
theorem agg_73 : aggB Tryd.prog 73 = some false := by kernel_rfl
theorem zero_73 : zeroOf Tryd.prog 73 = some (.tuple [.int .u8 0, .bool false]) := by kernel_rfl
theorem cells_74 : Tryd.prog.cellsOf 74 = 1 := by kernel_rfl
theorem bytes_74 : Tryd.prog.bytesOf 74 = 8 := by kernel_rfl
theorem info_74 : (Tryd.prog.info? 74).isSome = true := by kernel_rfl
theorem agg_74 : aggB Tryd.prog 74 = some false := by kernel_rfl
theorem zero_74 : zeroOf Tryd.prog 74 = some (.nilFunc) := by kernel_rfl
theorem cells_75 : Tryd.prog.cellsOf 75 = 1 := by kernel_rfl
theorem bytes_75 : Tryd.prog.bytesOf 75 = 8 := by kernel_rfl
theorem info_75 : (Tryd.prog.info? 75).isSome = true := by kernel_rfl
theorem agg_75 : aggB Tryd.prog 75 = some false := by kernel_rfl
theorem zero_75 : zeroOf Tryd.prog 75 = some (.nilFunc) := by kernel_rfl
theorem cells_76 : Tryd.prog.cellsOf 76 = 1 := by kernel_rfl
theorem bytes_76 : Tryd.prog.bytesOf 76 = 0 := by kernel_rfl
theorem info_76 : (Tryd.prog.info? 76).isSome = true := by kernel_rfl
theorem agg_76 : aggB Tryd.prog 76 = some false := by kernel_rfl
theorem zero_76 : zeroOf Tryd.prog 76 = some (.tuple [.agg [.int .u8 0, .int .i64 0, .int .i64 0, .int .i64 0, .int .i64 0, .int .i64 0, .int .i64 0], .int .i64 0, .int .i64 0]) := by kernel_rfl
theorem cells_77 : Tryd.prog.cellsOf 77 = 1 := by kernel_rfl
theorem bytes_77 : Tryd.prog.bytesOf 77 = 8 := by kernel_rfl
theorem info_77 : (Tryd.prog.info? 77).isSome = true := by kernel_rfl
theorem agg_77 : aggB Tryd.prog 77 = some false := by kernel_rfl
theorem zero_77 : zeroOf Tryd.prog 77 = some (.nilFunc) := by kernel_rfl
theorem cells_78 : Tryd.prog.cellsOf 78 = 1 := by kernel_rfl
theorem bytes_78 : Tryd.prog.bytesOf 78 = 0 := by kernel_rfl
theorem info_78 : (Tryd.prog.info? 78).isSome = true := by kernel_rfl
theorem agg_78 : aggB Tryd.prog 78 = some false := by kernel_rfl
theorem zero_78 : zeroOf Tryd.prog 78 = some (.tuple [.agg [.int .u8 0, .int .i64 0, .int .i64 0, .int .i64 0, .int .i64 0, .int .i64 0, .int .i64 0], .int .i64 0, .int .i64 0]) := by kernel_rfl
theorem cells_79 : Tryd.prog.cellsOf 79 = 1 := by kernel_rfl
theorem bytes_79 : Tryd.prog.bytesOf 79 = 8 := by kernel_rfl
theorem info_79 : (Tryd.prog.info? 79).isSome = true := by kernel_rfl
theorem agg_79 : aggB Tryd.prog 79 = some false := by kernel_rfl
theorem zero_79 : zeroOf Tryd.prog 79 = some (.nilFunc) := by kernel_rfl
theorem cells_80 : Tryd.prog.cellsOf 80 = 1 := by kernel_rfl
theorem bytes_80 : Tryd.prog.bytesOf 80 = 8 := by kernel_rfl
theorem info_80 : (Tryd.prog.info? 80).isSome = true := by kernel_rfl
theorem agg_80 : aggB Tryd.prog 80 = some false := by kernel_rfl
theorem zero_80 : zeroOf Tryd.prog 80 = some (.nilFunc) := by kernel_rfl
theorem cells_81 : Tryd.prog.cellsOf 81 = 1 := by kernel_rfl
theorem bytes_81 : Tryd.prog.bytesOf 81 = 8 := by kernel_rfl
theorem info_81 : (Tryd.prog.info? 81).isSome = true := by kernel_rfl
theorem agg_81 : aggB Tryd.prog 81 = some false := by kernel_rfl
theorem zero_81 : zeroOf Tryd.prog 81 = some (.nilFunc) := by kernel_rfl
theorem cells_82 : Tryd.prog.cellsOf 82 = 1 := by kernel_rfl
theorem bytes_82 : Tryd.prog.bytesOf 82 = 8 := by kernel_rfl
theorem info_82 : (Tryd.prog.info? 82).isSome = true := by kernel_rfl
theorem agg_82 : aggB Tryd.prog 82 = some false := by kernel_rfl
theorem zero_82 : zeroOf Tryd.prog 82 = some (.nilFunc) := by kernel_rfl
theorem cells_83 : Tryd.prog.cellsOf 83 = 1 := by kernel_rfl
theorem bytes_83 : Tryd.prog.bytesOf 83 = 24 := by kernel_rfl
theorem info_83 : (Tryd.prog.info? 83).isSome = true := by kernel_rfl
theorem agg_83 : aggB Tryd.prog 83 = some false := by kernel_rfl
theorem zero_83 : zeroOf Tryd.prog 83 = some (.nilSlice) := by kernel_rfl
theorem cells_84 : Tryd.prog.cellsOf 84 = 1 := by kernel_rfl
theorem bytes_84 : Tryd.prog.bytesOf 84 = 24 := by kernel_rfl
theorem info_84 : (Tryd.prog.info? 84).isSome = true := by kernel_rfl
theorem agg_84 : aggB Tryd.prog 84 = some false := by kernel_rfl
theorem zero_84 : zeroOf Tryd.prog 84 = some (.nilSlice) := by kernel_rfl
theorem cells_85 : Tryd.prog.cellsOf 85 = 1 := by kernel_rfl
theorem bytes_85 : Tryd.prog.bytesOf 85 = 8 := by kernel_rfl
theorem info_85 : (Tryd.prog.info? 85).isSome = true := by kernel_rfl
theorem agg_85 : aggB Tryd.prog 85 = some false := by kernel_rfl
theorem zero_85 : zeroOf Tryd.prog 85 = some (.nilFunc) := by kernel_rfl
theorem cells_86 : Tryd.prog.cellsOf 86 = 2 := by kernel_rfl
theorem bytes_86 : Tryd.prog.bytesOf 86 = 24 := by kernel_rfl
theorem info_86 : (Tryd.prog.info? 86).isSome = true := by kernel_rfl
theorem agg_86 : aggB Tryd.prog 86 = some true := by kernel_rfl
theorem bok_86 : buildOk Tryd.prog 86 = true := by kernel_rfl
theorem zero_86 : zeroOf Tryd.prog 86 = some (.agg [.str [], .int .i64 0]) := by kernel_rfl
theorem cells_87 : Tryd.prog.cellsOf 87 = 2 := by kernel_rfl
theorem bytes_87 : Tryd.prog.bytesOf 87 = 24 := by kernel_rfl
theorem info_87 : (Tryd.prog.info? 87).isSome = true := by kernel_rfl
theorem agg_87 : aggB Tryd.prog 87 = some true := by kernel_rfl
theorem bok_87 : buildOk Tryd.prog 87 = true := by kernel_rfl
theorem zero_87 : zeroOf Tryd.prog 87 = some (.agg [.str [], .int .i64 0]) := by kernel_rfl
theorem cells_88 : Tryd.prog.cellsOf 88 = 1 := by kernel_rfl
theorem bytes_88 : Tryd.prog.bytesOf 88 = 8 := by kernel_rfl
theorem info_88 : (Tryd.prog.info? 88).isSome = true := by kernel_rfl
theorem agg_88 : aggB Tryd.prog 88 = some false := by kernel_rfl
theorem zero_88 : zeroOf Tryd.prog 88 = some (.nilPtr) := by kernel_rfl
theorem cells_89 : Tryd.prog.cellsOf 89 = 2 := by kernel_rfl
theorem bytes_89 : Tryd.prog.bytesOf 89 = 32 := by kernel_rfl
theorem info_89 : (Tryd.prog.info? 89).isSome = true := by kernel_rfl
theorem agg_89 : aggB Tryd.prog 89 = some true := by kernel_rfl
theorem bok_89 : buildOk Tryd.prog 89 = true := by kernel_rfl
theorem zero_89 : zeroOf Tryd.prog 89 = some (.agg [.nilPtr, .nilSlice]) := by kernel_rfl
theorem cells_90 : Tryd.prog.cellsOf 90 = 2 := by kernel_rfl
theorem bytes_90 : Tryd.prog.bytesOf 90 = 32 := by kernel_rfl
theorem info_90 : (Tryd.prog.info? 90).isSome = true := by kernel_rfl
theorem agg_90 : aggB Tryd.prog 90 = some true := by kernel_rfl
theorem bok_90 : buildOk Tryd.prog 90 = true := by kernel_rfl
theorem zero_90 : zeroOf Tryd.prog 90 = some (.agg [.nilPtr, .nilSlice]) := by kernel_rfl
theorem cells_91 : Tryd.prog.cellsOf 91 = 1 := by kernel_rfl
theorem bytes_91 : Tryd.prog.bytesOf 91 = 16 := by kernel_rfl
theorem info_91 : (Tryd.prog.info? 91).isSome = true := by kernel_rfl
theorem agg_91 : aggB Tryd.prog 91 = some false := by kernel_rfl
theorem zero_91 : zeroOf Tryd.prog 91 = some (.nilIface) := by kernel_rfl
theorem cells_92 : Tryd.prog.cellsOf 92 = 1 := by kernel_rfl
theorem bytes_92 : Tryd.prog.bytesOf 92 = 16 := by kernel_rfl
theorem info_92 : (Tryd.prog.info? 92).isSome = true := by kernel_rfl
theorem agg_92 : aggB Tryd.prog 92 = some false := by kernel_rfl
theorem zero_92 : zeroOf Tryd.prog 92 = some (.nilIface) := by kernel_rfl
theorem cells_93 : Tryd.prog.cellsOf 93 = 1 := by kernel_rfl
theorem bytes_93 : Tryd.prog.bytesOf 93 = 0 := by kernel_rfl
theorem info_93 : (Tryd.prog.info? 93).isSome = true := by kernel_rfl
theorem agg_93 : aggB Tryd.prog 93 = some false := by kernel_rfl
theorem zero_93 : zeroOf Tryd.prog 93 = some (.tuple [.int .i64 0, .nilIface]) := by kernel_rfl
theorem cells_94 : Tryd.prog.cellsOf 94 = 1 := by kernel_rfl
theorem bytes_94 : Tryd.prog.bytesOf 94 = 8 := by kernel_rfl
theorem info_94 : (Tryd.prog.info? 94).isSome = true := by kernel_rfl
theorem agg_94 : aggB Tryd.prog 94 = some false := by kernel_rfl
theorem zero_94 : zeroOf Tryd.prog 94 = some (.nilFunc) := by kernel_rfl
theorem cells_95 : Tryd.prog.cellsOf 95 = 1 := by kernel_rfl
theorem bytes_95 : Tryd.prog.bytesOf 95 = 8 := by kernel_rfl
theorem info_95 : (Tryd.prog.info? 95).isSome = true := by kernel_rfl
theorem agg_95 : aggB Tryd.prog 95 = some false := by kernel_rfl
theorem zero_95 : zeroOf Tryd.prog 95 = some (.nilFunc) := by kernel_rfl
theorem cells_96 : Tryd.prog.cellsOf 96 = 1 := by kernel_rfl
theorem bytes_96 : Tryd.prog.bytesOf 96 = 8 := by kernel_rfl
theorem info_96 : (Tryd.prog.info? 96).isSome = true := by kernel_rfl
theorem agg_96 : aggB Tryd.prog 96 = some false := by kernel_rfl
theorem zero_96 : zeroOf Tryd.prog 96 = some (.nilFunc) := by kernel_rfl
theorem cells_97 : Tryd.prog.cellsOf 97 = 1 := by kernel_rfl
theorem bytes_97 : Tryd.prog.bytesOf 97 = 8 := by kernel_rfl
theorem info_97 : (Tryd.prog.info? 97).isSome = true := by kernel_rfl
theorem agg_97 : aggB Tryd.prog 97 = some false := by kernel_rfl
theorem zero_97 : zeroOf Tryd.prog 97 = some (.nilFunc) := by kernel_rfl
theorem cells_98 : Tryd.prog.cellsOf 98 = 58 := by kernel_rfl
theorem bytes_98 : Tryd.prog.bytesOf 98 = 58 := by kernel_rfl
theorem info_98 : (Tryd.prog.info? 98).isSome = true := by kernel_rfl
theorem agg_98 : aggB Tryd.prog 98 = some true := by kernel_rfl
theorem bok_98 : buildOk Tryd.prog 98 = true := by kernel_rfl
theorem zero_98 : zeroOf Tryd.prog 98 = some (.agg [.bool false, .bool false, .bool false, .bool false, .bool false, .bool false, .bool false, .bool false, .bool false, .bool false, .bool false, .bool false, .bool false, .bool false, .bool false, .bool false, .bool false, .bool false, .bool false, .bool false, .bool false, .bool false, .bool false, .bool false, .bool false, .bool false, .bool false, .bool false, .bool false, .bool false, .bool false, .bool false, .bool false, .bool false, .bool false, .bool false, .bool false, .bool false, .bool false, .bool false, .bool false, .bool false, .bool false, .bool false, .bool false, .bool false, .bool false, .bool false, .bool false, .bool false, .bool false, .bool false, .bool false, .bool false, .bool false, .bool false, .bool false, .bool false]) := by kernel_rfl
theorem cells_99 : Tryd.prog.cellsOf 99 = 1 := by kernel_rfl
theorem bytes_99 : Tryd.prog.bytesOf 99 = 8 := by kernel_rfl
theorem info_99 : (Tryd.prog.info? 99).isSome = true := by kernel_rfl
theorem agg_99 : aggB Tryd.prog 99 = some false := by kernel_rfl
theorem zero_99 : zeroOf Tryd.prog 99 = some (.nilFunc) := by kernel_rfl
theorem cells_100 : Tryd.prog.cellsOf 100 = 1 := by kernel_rfl
theorem bytes_100 : Tryd.prog.bytesOf 100 = 8 := by kernel_rfl
theorem info_100 : (Tryd.prog.info? 100).isSome = true := by kernel_rfl
theorem agg_100 : aggB Tryd.prog 100 = some false := by kernel_rfl
theorem zero_100 : zeroOf Tryd.prog 100 = some (.nilFunc) := by kernel_rfl
theorem cells_101 : Tryd.prog.cellsOf 101 = 1 := by kernel_rfl
theorem bytes_101 : Tryd.prog.bytesOf 101 = 8 := by kernel_rfl
theorem info_101 : (Tryd.prog.info? 101).isSome = true := by kernel_rfl
theorem agg_101 : aggB Tryd.prog 101 = some false := by kernel_rfl
theorem zero_101 : zeroOf Tryd.prog 101 = some (.nilFunc) := by kernel_rfl
theorem cells_102 : Tryd.prog.cellsOf 102 = 1 := by kernel_rfl
theorem bytes_102 : Tryd.prog.bytesOf 102 = 8 := by kernel_rfl
theorem info_102 : (Tryd.prog.info? 102).isSome = true := by kernel_rfl
theorem agg_102 : aggB Tryd.prog 102 = some false := by kernel_rfl
theorem zero_102 : zeroOf Tryd.prog 102 = some (.nilFunc) := by kernel_rfl
theorem cells_103 : Tryd.prog.cellsOf 103 = 1 := by kernel_rfl
theorem bytes_103 : Tryd.prog.bytesOf 103 = 0 := by kernel_rfl
theorem info_103 : (Tryd.prog.info? 103).isSome = true := by kernel_rfl
theorem agg_103 : aggB Tryd.prog 103 = some false := by kernel_rfl
theorem zero_103 : zeroOf Tryd.prog 103 = some (.tuple [.str [], .str [], .bool false]) := by kernel_rfl
theorem cells_104 : Tryd.prog.cellsOf 104 = 1 := by kernel_rfl
theorem bytes_104 : Tryd.prog.bytesOf 104 = 8 := by kernel_rfl
theorem info_104 : (Tryd.prog.info? 104).isSome = true := by kernel_rfl
theorem agg_104 : aggB Tryd.prog 104 = some false := by kernel_rfl
theorem zero_104 : zeroOf Tryd.prog 104 = some (.nilFunc) := by kernel_rfl
theorem cells_105 : Tryd.prog.cellsOf 105 = 1 := by kernel_rfl
theorem bytes_105 : Tryd.prog.bytesOf 105 = 8 := by kernel_rfl
theorem info_105 : (Tryd.prog.info? 105).isSome = true := by kernel_rfl
theorem agg_105 : aggB Tryd.prog 105 = some false := by kernel_rfl
theorem zero_105 : zeroOf Tryd.prog 105 = some (.nilFunc) := by kernel_rfl
theorem cells_106 : Tryd.prog.cellsOf 106 = 1 := by kernel_rfl
theorem bytes_106 : Tryd.prog.bytesOf 106 = 0 := by kernel_rfl
theorem info_106 : (Tryd.prog.info? 106).isSome = true := by kernel_rfl
theorem agg_106 : aggB Tryd.prog 106 = some false := by kernel_rfl
theorem zero_106 : zeroOf Tryd.prog 106 = some (.tuple [.int .i64 0, .nilIface]) := by kernel_rfl
theorem cells_107 : Tryd.prog.cellsOf 107 = 1 := by kernel_rfl
theorem bytes_107 : Tryd.prog.bytesOf 107 = 8 := by kernel_rfl
theorem info_107 : (Tryd.prog.info? 107).isSome = true := by kernel_rfl
theorem agg_107 : aggB Tryd.prog 107 = some false := by kernel_rfl
theorem zero_107 : zeroOf Tryd.prog 107 = some (.nilFunc) := by kernel_rfl
theorem cells_108 : Tryd.prog.cellsOf 108 = 256 := by kernel_rfl
theorem bytes_108 : Tryd.prog.bytesOf 108 = 256 := by kernel_rfl
theorem info_108 : (Tryd.prog.info? 108).isSome = true := by kernel_rfl
theorem agg_108 : aggB Tryd.prog 108 = some true := by kernel_rfl
theorem bok_108 : buildOk Tryd.prog 108 = true := by kernel_rfl
theorem cells_109 : Tryd.prog.cellsOf 109 = 1 := by kernel_rfl
theorem bytes_109 : Tryd.prog.bytesOf 109 = 0 := by kernel_rfl
theorem info_109 : (Tryd.prog.info? 109).isSome = true := by kernel_rfl
theorem agg_109 : aggB Tryd.prog 109 = some false := by kernel_rfl
theorem zero_109 : zeroOf Tryd.prog 109 = some (.tuple [.int .u8 0, .int .i64 0, .bool false]) := by kernel_rfl
theorem cells_110 : Tryd.prog.cellsOf 110 = 1 := by kernel_rfl
theorem bytes_110 : Tryd.prog.bytesOf 110 = 8 := by kernel_rfl
theorem info_110 : (Tryd.prog.info? 110).isSome = true := by kernel_rfl
theorem agg_110 : aggB Tryd.prog 110 = some false := by kernel_rfl
theorem zero_110 : zeroOf Tryd.prog 110 = some (.nilFunc) := by kernel_rfl
theorem cells_111 : Tryd.prog.cellsOf 111 = 1 := by kernel_rfl
theorem bytes_111 : Tryd.prog.bytesOf 111 = 8 := by kernel_rfl
theorem info_111 : (Tryd.prog.info? 111).isSome = true := by kernel_rfl
theorem agg_111 : aggB Tryd.prog 111 = some false := by kernel_rfl
theorem zero_111 : zeroOf Tryd.prog 111 = some (.nilFunc) := by kernel_rfl
theorem cells_112 : Tryd.prog.cellsOf 112 = 1 := by kernel_rfl
theorem bytes_112 : Tryd.prog.bytesOf 112 = 8 := by kernel_rfl
theorem info_112 : (Tryd.prog.info? 112).isSome = true := by kernel_rfl
theorem agg_112 : aggB Tryd.prog 112 = some false := by kernel_rfl
theorem zero_112 : zeroOf Tryd.prog 112 = some (.nilFunc) := by kernel_rfl
theorem cells_113 : Tryd.prog.cellsOf 113 = 1 := by kernel_rfl
theorem bytes_113 : Tryd.prog.bytesOf 113 = 8 := by kernel_rfl
theorem info_113 : (Tryd.prog.info? 113).isSome = true := by kernel_rfl
theorem agg_113 : aggB Tryd.prog 113 = some false := by kernel_rfl
theorem zero_113 : zeroOf Tryd.prog 113 = some (.nilFunc) := by kernel_rfl
theorem cells_114 : Tryd.prog.cellsOf 114 = 1 := by kernel_rfl
theorem bytes_114 : Tryd.prog.bytesOf 114 = 8 := by kernel_rfl
theorem info_114 : (Tryd.prog.info? 114).isSome = true := by kernel_rfl
theorem agg_114 : aggB Tryd.prog 114 = some false := by kernel_rfl
theorem zero_114 : zeroOf Tryd.prog 114 = some (.nilPtr) := by kernel_rfl
theorem cells_115 : Tryd.prog.cellsOf 115 = 1 := by kernel_rfl
theorem bytes_115 : Tryd.prog.bytesOf 115 = 8 := by kernel_rfl
theorem info_115 : (Tryd.prog.info? 115).isSome = true := by kernel_rfl
theorem agg_115 : aggB Tryd.prog 115 = some false := by kernel_rfl
theorem zero_115 : zeroOf Tryd.prog 115 = some (.nilFunc) := by kernel_rfl
theorem cells_116 : Tryd.prog.cellsOf 116 = 1 := by kernel_rfl
theorem bytes_116 : Tryd.prog.bytesOf 116 = 8 := by kernel_rfl
theorem info_116 : (Tryd.prog.info? 116).isSome = true := by kernel_rfl
theorem agg_116 : aggB Tryd.prog 116 = some false := by kernel_rfl
theorem zero_116 : zeroOf Tryd.prog 116 = some (.nilFunc) := by kernel_rfl
theorem cells_117 : Tryd.prog.cellsOf 117 = 4 := by kernel_rfl
theorem bytes_117 : Tryd.prog.bytesOf 117 = 32 := by kernel_rfl
theorem info_117 : (Tryd.prog.info? 117).isSome = true := by kernel_rfl
theorem agg_117 : aggB Tryd.prog 117 = some true := by kernel_rfl
theorem bok_117 : buildOk Tryd.prog 117 = true := by kernel_rfl
theorem zero_117 : zeroOf Tryd.prog 117 = some (.agg [.nilFunc, .nilFunc, .int .i64 0, .int .i64 0]) := by kernel_rfl
theorem cells_118 : Tryd.prog.cellsOf 118 = 4 := by kernel_rfl
theorem bytes_118 : Tryd.prog.bytesOf 118 = 32 := by kernel_rfl
theorem info_118 : (Tryd.prog.info? 118).isSome = true := by kernel_rfl
theorem agg_118 : aggB Tryd.prog 118 = some true := by kernel_rfl
theorem bok_118 : buildOk Tryd.prog 118 = true := by kernel_rfl
theorem zero_118 : zeroOf Tryd.prog 118 = some (.agg [.nilFunc, .nilFunc, .int .i64 0, .int .i64 0]) := by kernel_rfl
theorem cells_119 : Tryd.prog.cellsOf 119 = 1 := by kernel_rfl
theorem bytes_119 : Tryd.prog.bytesOf 119 = 8 := by kernel_rfl
theorem info_119 : (Tryd.prog.info? 119).isSome = true := by kernel_rfl
theorem agg_119 : aggB Tryd.prog 119 = some false := by kernel_rfl
theorem zero_119 : zeroOf Tryd.prog 119 = some (.nilFunc) := by kernel_rfl
theorem cells_120 : Tryd.prog.cellsOf 120 = 3 := by kernel_rfl
theorem bytes_120 : Tryd.prog.bytesOf 120 = 24 := by kernel_rfl
theorem info_120 : (Tryd.prog.info? 120).isSome = true := by kernel_rfl
theorem agg_120 : aggB Tryd.prog 120 = some true := by kernel_rfl
theorem bok_120 : buildOk Tryd.prog 120 = true := by kernel_rfl
theorem zero_120 : zeroOf Tryd.prog 120 = some (.agg [.int .u8 0, .int .i64 0, .int .i64 0]) := by kernel_rfl
theorem cells_121 : Tryd.prog.cellsOf 121 = 3 := by kernel_rfl
theorem bytes_121 : Tryd.prog.bytesOf 121 = 24 := by kernel_rfl
theorem info_121 : (Tryd.prog.info? 121).isSome = true := by kernel_rfl
theorem agg_121 : aggB Tryd.prog 121 = some true := by kernel_rfl
theorem bok_121 : buildOk Tryd.prog 121 = true := by kernel_rfl
theorem zero_121 : zeroOf Tryd.prog 121 = some (.agg [.int .u8 0, .int .i64 0, .int .i64 0]) := by kernel_rfl
theorem cells_122 : Tryd.prog.cellsOf 122 = 1 := by kernel_rfl
theorem bytes_122 : Tryd.prog.bytesOf 122 = 8 := by kernel_rfl
theorem info_122 : (Tryd.prog.info? 122).isSome = true := by kernel_rfl
theorem agg_122 : aggB Tryd.prog 122 = some false := by kernel_rfl
theorem zero_122 : zeroOf Tryd.prog 122 = some (.nilFunc) := by kernel_rfl
theorem cells_123 : Tryd.prog.cellsOf 123 = 2 := by kernel_rfl
theorem bytes_123 : Tryd.prog.bytesOf 123 = 32 := by kernel_rfl
theorem info_123 : (Tryd.prog.info? 123).isSome = true := by kernel_rfl
theorem agg_123 : aggB Tryd.prog 123 = some true := by kernel_rfl
theorem bok_123 : buildOk Tryd.prog 123 = true := by kernel_rfl
theorem zero_123 : zeroOf Tryd.prog 123 = some (.agg [.str [], .str []]) := by kernel_rfl
theorem cells_124 : Tryd.prog.cellsOf 124 = 2 := by kernel_rfl
theorem bytes_124 : Tryd.prog.bytesOf 124 = 32 := by kernel_rfl
theorem info_124 : (Tryd.prog.info? 124).isSome = true := by kernel_rfl
theorem agg_124 : aggB Tryd.prog 124 = some true := by kernel_rfl
theorem bok_124 : buildOk Tryd.prog 124 = true := by kernel_rfl
theorem zero_124 : zeroOf Tryd.prog 124 = some (.agg [.str [], .str []]) := by kernel_rfl
theorem cells_125 : Tryd.prog.cellsOf 125 = 1 := by kernel_rfl
theorem bytes_125 : Tryd.prog.bytesOf 125 = 0 := by kernel_rfl
theorem info_125 : (Tryd.prog.info? 125).isSome = true := by kernel_rfl
theorem agg_125 : aggB Tryd.prog 125 = some false := by kernel_rfl
theorem zero_125 : zeroOf Tryd.prog 125 = some (.tuple [.agg [.str [], .str []], .bool false]) := by kernel_rfl
theorem cells_126 : Tryd.prog.cellsOf 126 = 1 := by kernel_rfl
theorem bytes_126 : Tryd.prog.bytesOf 126 = 8 := by kernel_rfl
theorem info_126 : (Tryd.prog.info? 126).isSome = true := by kernel_rfl
theorem agg_126 : aggB Tryd.prog 126 = some false := by kernel_rfl
theorem zero_126 : zeroOf Tryd.prog 126 = some (.nilFunc) := by kernel_rfl
theorem cells_127 : Tryd.prog.cellsOf 127 = 1 := by kernel_rfl
theorem bytes_127 : Tryd.prog.bytesOf 127 = 1 := by kernel_rfl
theorem info_127 : (Tryd.prog.info? 127).isSome = true := by kernel_rfl
theorem agg_127 : aggB Tryd.prog 127 = some false := by kernel_rfl
theorem zero_127 : zeroOf Tryd.prog 127 = some (.int .u8 0) := by kernel_rfl
theorem cells_128 : Tryd.prog.cellsOf 128 = 1 := by kernel_rfl
theorem bytes_128 : Tryd.prog.bytesOf 128 = 8 := by kernel_rfl
theorem info_128 : (Tryd.prog.info? 128).isSome = true := by kernel_rfl
theorem agg_128 : aggB Tryd.prog 128 = some false := by kernel_rfl
theorem zero_128 : zeroOf Tryd.prog 128 = some (.nilFunc) := by kernel_rfl
theorem cells_129 : Tryd.prog.cellsOf 129 = 1 := by kernel_rfl
theorem bytes_129 : Tryd.prog.bytesOf 129 = 8 := by kernel_rfl
theorem info_129 : (Tryd.prog.info? 129).isSome = true := by kernel_rfl
theorem agg_129 : aggB Tryd.prog 129 = some false := by kernel_rfl
theorem zero_129 : zeroOf Tryd.prog 129 = some (.nilFunc) := by kernel_rfl
theorem cells_130 : Tryd.prog.cellsOf 130 = 1 := by kernel_rfl
theorem bytes_130 : Tryd.prog.bytesOf 130 = 24 := by kernel_rfl
theorem info_130 : (Tryd.prog.info? 130).isSome = true := by kernel_rfl
theorem agg_130 : aggB Tryd.prog 130 = some false := by kernel_rfl
theorem zero_130 : zeroOf Tryd.prog 130 = some (.nilSlice) := by kernel_rfl
theorem cells_131 : Tryd.prog.cellsOf 131 = 1 := by kernel_rfl
theorem bytes_131 : Tryd.prog.bytesOf 131 = 8 := by kernel_rfl
theorem info_131 : (Tryd.prog.info? 131).isSome = true := by kernel_rfl
theorem agg_131 : aggB Tryd.prog 131 = some false := by kernel_rfl
theorem zero_131 : zeroOf Tryd.prog 131 = some (.nilFunc) := by kernel_rfl
theorem cells_132 : Tryd.prog.cellsOf 132 = 1 := by kernel_rfl
theorem bytes_132 : Tryd.prog.bytesOf 132 = 24 := by kernel_rfl
theorem info_132 : (Tryd.prog.info? 132).isSome = true := by kernel_rfl
theorem agg_132 : aggB Tryd.prog 132 = some false := by kernel_rfl
theorem zero_132 : zeroOf Tryd.prog 132 = some (.nilSlice) := by kernel_rfl
theorem cells_133 : Tryd.prog.cellsOf 133 = 1 := by kernel_rfl
theorem bytes_133 : Tryd.prog.bytesOf 133 = 24 := by kernel_rfl
theorem info_133 : (Tryd.prog.info? 133).isSome = true := by kernel_rfl
theorem agg_133 : aggB Tryd.prog 133 = some false := by kernel_rfl
theorem zero_133 : zeroOf Tryd.prog 133 = some (.nilSlice) := by kernel_rfl
theorem cells_134 : Tryd.prog.cellsOf 134 = 1 := by kernel_rfl
theorem bytes_134 : Tryd.prog.bytesOf 134 = 8 := by kernel_rfl
theorem info_134 : (Tryd.prog.info? 134).isSome = true := by kernel_rfl
theorem agg_134 : aggB Tryd.prog 134 = some false := by kernel_rfl
theorem zero_134 : zeroOf Tryd.prog 134 = some (.nilFunc) := by kernel_rfl
theorem cells_135 : Tryd.prog.cellsOf 135 = 1 := by kernel_rfl
theorem bytes_135 : Tryd.prog.bytesOf 135 = 8 := by kernel_rfl
theorem info_135 : (Tryd.prog.info? 135).isSome = true := by kernel_rfl
theorem agg_135 : aggB Tryd.prog 135 = some false := by kernel_rfl
theorem zero_135 : zeroOf Tryd.prog 135 = some (.nilFunc) := by kernel_rfl
theorem cells_136 : Tryd.prog.cellsOf 136 = 1 := by kernel_rfl
theorem bytes_136 : Tryd.prog.bytesOf 136 = 8 := by kernel_rfl
theorem info_136 : (Tryd.prog.info? 136).isSome = true := by kernel_rfl
theorem agg_136 : aggB Tryd.prog 136 = some false := by kernel_rfl
theorem zero_136 : zeroOf Tryd.prog 136 = some (.nilFunc) := by kernel_rfl
theorem cells_137 : Tryd.prog.cellsOf 137 = 1 := by kernel_rfl
theorem bytes_137 : Tryd.prog.bytesOf 137 = 8 := by kernel_rfl
theorem info_137 : (Tryd.prog.info? 137).isSome = true := by kernel_rfl
theorem agg_137 : aggB Tryd.prog 137 = some false := by kernel_rfl
theorem zero_137 : zeroOf Tryd.prog 137 = some (.nilFunc) := by kernel_rfl
theorem cells_138 : Tryd.prog.cellsOf 138 = 1 := by kernel_rfl
theorem bytes_138 : Tryd.prog.bytesOf 138 = 24 := by kernel_rfl
theorem info_138 : (Tryd.prog.info? 138).isSome = true := by kernel_rfl
theorem agg_138 : aggB Tryd.prog 138 = some false := by kernel_rfl
theorem zero_138 : zeroOf Tryd.prog 138 = some (.nilSlice) := by kernel_rfl
theorem cells_139 : Tryd.prog.cellsOf 139 = 114 := by kernel_rfl
theorem bytes_139 : Tryd.prog.bytesOf 139 = 1824 := by kernel_rfl
theorem info_139 : (Tryd.prog.info? 139).isSome = true := by kernel_rfl
theorem agg_139 : aggB Tryd.prog 139 = some true := by kernel_rfl
theorem bok_139 : buildOk Tryd.prog 139 = true := by kernel_rfl
theorem zero_139 : zeroOf Tryd.prog 139 = some (.agg [.str [], .str [], .str [], .str [], .str [], .str [], .str [], .str [], .str [], .str [], .str [], .str [], .str [], .str [], .str [], .str [], .str [], .str [], .str [], .str [], .str [], .str [], .str [], .str [], .str [], .str [], .str [], .str [], .str [], .str [], .str [], .str [], .str [], .str [], .str [], .str [], .str [], .str [], .str [], .str [], .str [], .str [], .str [], .str [], .str [], .str [], .str [], .str [], .str [], .str [], .str [], .str [], .str [], .str [], .str [], .str [], .str [], .str [], .str [], .str [], .str [], .str [], .str [], .str [], .str [], .str [], .str [], .str [], .str [], .str [], .str [], .str [], .str [], .str [], .str [], .str [], .str [], .str [], .str [], .str [], .str [], .str [], .str [], .str [], .str [], .str [], .str [], .str [], .str [], .str [], .str [], .str [], .str [], .str [], .str [], .str [], .str [], .str [], .str [], .str [], .str [], .str [], .str [], .str [], .str [], .str [], .str [], .str [], .str [], .str [], .str [], .str [], .str [], .str []]) := by kernel_rfl
theorem cells_140 : Tryd.prog.cellsOf 140 = 1 := by kernel_rfl
theorem bytes_140 : Tryd.prog.bytesOf 140 = 8 := by kernel_rfl
theorem info_140 : (Tryd.prog.info? 140).isSome = true := by kernel_rfl
theorem agg_140 : aggB Tryd.prog 140 = some false := by kernel_rfl
theorem zero_140 : zeroOf Tryd.prog 140 = some (.nilFunc) := by kernel_rfl
theorem cells_141 : Tryd.prog.cellsOf 141 = 1 := by kernel_rfl
theorem bytes_141 : Tryd.prog.bytesOf 141 = 8 := by kernel_rfl
theorem info_141 : (Tryd.prog.info? 141).isSome = true := by kernel_rfl
theorem agg_141 : aggB Tryd.prog 141 = some false := by kernel_rfl
theorem zero_141 : zeroOf Tryd.prog 141 = some (.nilFunc) := by kernel_rfl
theorem cells_142 : Tryd.prog.cellsOf 142 = 1 := by kernel_rfl
theorem bytes_142 : Tryd.prog.bytesOf 142 = 8 := by kernel_rfl
theorem info_142 : (Tryd.prog.info? 142).isSome = true := by kernel_rfl
theorem agg_142 : aggB Tryd.prog 142 = some false := by kernel_rfl
theorem zero_142 : zeroOf Tryd.prog 142 = some (.nilPtr) := by kernel_rfl
theorem cells_143 : Tryd.prog.cellsOf 143 = 1 := by kernel_rfl
theorem bytes_143 : Tryd.prog.bytesOf 143 = 8 := by kernel_rfl
theorem info_143 : (Tryd.prog.info? 143).isSome = true := by kernel_rfl
theorem agg_143 : aggB Tryd.prog 143 = some false := by kernel_rfl
theorem zero_143 : zeroOf Tryd.prog 143 = some (.nilFunc) := by kernel_rfl
theorem cells_144 : Tryd.prog.cellsOf 144 = 1 := by kernel_rfl
theorem bytes_144 : Tryd.prog.bytesOf 144 = 8 := by kernel_rfl
theorem info_144 : (Tryd.prog.info? 144).isSome = true := by kernel_rfl
theorem agg_144 : aggB Tryd.prog 144 = some false := by kernel_rfl
theorem zero_144 : zeroOf Tryd.prog 144 = some (.nilFunc) := by kernel_rfl
theorem cells_145 : Tryd.prog.cellsOf 145 = 1 := by kernel_rfl
theorem bytes_145 : Tryd.prog.bytesOf 145 = 8 := by kernel_rfl
theorem info_145 : (Tryd.prog.info? 145).isSome = true := by kernel_rfl
theorem agg_145 : aggB Tryd.prog 145 = some false := by kernel_rfl
theorem zero_145 : zeroOf Tryd.prog 145 = some (.nilFunc) := by kernel_rfl
theorem cells_146 : Tryd.prog.cellsOf 146 = 1 := by kernel_rfl
theorem bytes_146 : Tryd.prog.bytesOf 146 = 8 := by kernel_rfl
theorem info_146 : (Tryd.prog.info? 146).isSome = true := by kernel_rfl
theorem agg_146 : aggB Tryd.prog 146 = some false := by kernel_rfl
theorem zero_146 : zeroOf Tryd.prog 146 = some (.nilFunc) := by kernel_rfl
theorem cells_147 : Tryd.prog.cellsOf 147 = 1 := by kernel_rfl
theorem bytes_147 : Tryd.prog.bytesOf 147 = 8 := by kernel_rfl
theorem info_147 : (Tryd.prog.info? 147).isSome = true := by kernel_rfl
theorem agg_147 : aggB Tryd.prog 147 = some false := by kernel_rfl
theorem zero_147 : zeroOf Tryd.prog 147 = some (.nilPtr) := by kernel_rfl
theorem cells_148 : Tryd.prog.cellsOf 148 = 1 := by kernel_rfl
theorem bytes_148 : Tryd.prog.bytesOf 148 = 8 := by kernel_rfl
theorem info_148 : (Tryd.prog.info? 148).isSome = true := by kernel_rfl
theorem agg_148 : aggB Tryd.prog 148 = some false := by kernel_rfl
theorem zero_148 : zeroOf Tryd.prog 148 = some (.nilFunc) := by kernel_rfl
theorem cells_149 : Tryd.prog.cellsOf 149 = 1 := by kernel_rfl
theorem bytes_149 : Tryd.prog.bytesOf 149 = 8 := by kernel_rfl
theorem info_149 : (Tryd.prog.info? 149).isSome = true := by kernel_rfl
theorem agg_149 : aggB Tryd.prog 149 = some false := by kernel_rfl
theorem zero_149 : zeroOf Tryd.prog 149 = some (.nilPtr) := by kernel_rfl
theorem cells_150 : Tryd.prog.cellsOf 150 = 1 := by kernel_rfl
theorem bytes_150 : Tryd.prog.bytesOf 150 = 0 := by kernel_rfl
theorem info_150 : (Tryd.prog.info? 150).isSome = true := by kernel_rfl
theorem agg_150 : aggB Tryd.prog 150 = some false := by kernel_rfl
theorem zero_150 : zeroOf Tryd.prog 150 = some (.tuple [.int .i64 0, .int .i64 0]) := by kernel_rfl
theorem cells_151 : Tryd.prog.cellsOf 151 = 1 := by kernel_rfl
theorem bytes_151 : Tryd.prog.bytesOf 151 = 8 := by kernel_rfl
theorem info_151 : (Tryd.prog.info? 151).isSome = true := by kernel_rfl
theorem agg_151 : aggB Tryd.prog 151 = some false := by kernel_rfl
theorem zero_151 : zeroOf Tryd.prog 151 = some (.nilFunc) := by kernel_rfl
theorem cells_152 : Tryd.prog.cellsOf 152 = 1 := by kernel_rfl
theorem bytes_152 : Tryd.prog.bytesOf 152 = 8 := by kernel_rfl
theorem info_152 : (Tryd.prog.info? 152).isSome = true := by kernel_rfl
theorem agg_152 : aggB Tryd.prog 152 = some false := by kernel_rfl
theorem zero_152 : zeroOf Tryd.prog 152 = some (.nilFunc) := by kernel_rfl
theorem cells_153 : Tryd.prog.cellsOf 153 = 1 := by kernel_rfl
theorem bytes_153 : Tryd.prog.bytesOf 153 = 8 := by kernel_rfl
theorem info_153 : (Tryd.prog.info? 153).isSome = true := by kernel_rfl
theorem agg_153 : aggB Tryd.prog 153 = some false := by kernel_rfl
theorem zero_153 : zeroOf Tryd.prog 153 = some (.nilPtr) := by kernel_rfl
theorem cells_154 : Tryd.prog.cellsOf 154 = 1 := by kernel_rfl
theorem bytes_154 : Tryd.prog.bytesOf 154 = 8 := by kernel_rfl
theorem info_154 : (Tryd.prog.info? 154).isSome = true := by kernel_rfl
theorem agg_154 : aggB Tryd.prog 154 = some false := by kernel_rfl
theorem zero_154 : zeroOf Tryd.prog 154 = some (.nilFunc) := by kernel_rfl
theorem cells_155 : Tryd.prog.cellsOf 155 = 1 := by kernel_rfl
theorem bytes_155 : Tryd.prog.bytesOf 155 = 8 := by kernel_rfl
theorem info_155 : (Tryd.prog.info? 155).isSome = true := by kernel_rfl
theorem agg_155 : aggB Tryd.prog 155 = some false := by kernel_rfl
theorem zero_155 : zeroOf Tryd.prog 155 = some (.nilFunc) := by kernel_rfl
theorem cells_156 : Tryd.prog.cellsOf 156 = 24 := by kernel_rfl
theorem bytes_156 : Tryd.prog.bytesOf 156 = 24 := by kernel_rfl
theorem info_156 : (Tryd.prog.info? 156).isSome = true := by kernel_rfl
theorem agg_156 : aggB Tryd.prog 156 = some true := by kernel_rfl
theorem bok_156 : buildOk Tryd.prog 156 = true := by kernel_rfl
theorem zero_156 : zeroOf Tryd.prog 156 = some (.agg [.int .u8 0, .int .u8 0, .int .u8 0, .int .u8 0, .int .u8 0, .int .u8 0, .int .u8 0, .int .u8 0, .int .u8 0, .int .u8 0, .int .u8 0, .int .u8 0, .int .u8 0, .int .u8 0, .int .u8 0, .int .u8 0, .int .u8 0, .int .u8 0, .int .u8 0, .int .u8 0, .int .u8 0, .int .u8 0, .int .u8 0, .int .u8 0]) := by kernel_rfl
theorem cells_157 : Tryd.prog.cellsOf 157 = 1 := by kernel_rfl
theorem bytes_157 : Tryd.prog.bytesOf 157 = 8 := by kernel_rfl
theorem info_157 : (Tryd.prog.info? 157).isSome = true := by kernel_rfl
theorem agg_157 : aggB Tryd.prog 157 = some false := by kernel_rfl
theorem zero_157 : zeroOf Tryd.prog 157 = some (.nilFunc) := by kernel_rfl
theorem cells_158 : Tryd.prog.cellsOf 158 = 1 := by kernel_rfl
theorem bytes_158 : Tryd.prog.bytesOf 158 = 8 := by kernel_rfl
theorem info_158 : (Tryd.prog.info? 158).isSome = true := by kernel_rfl
theorem agg_158 : aggB Tryd.prog 158 = some false := by kernel_rfl
theorem zero_158 : zeroOf Tryd.prog 158 = some (.nilFunc) := by kernel_rfl
theorem cells_159 : Tryd.prog.cellsOf 159 = 1 := by kernel_rfl
theorem bytes_159 : Tryd.prog.bytesOf 159 = 0 := by kernel_rfl
theorem info_159 : (Tryd.prog.info? 159).isSome = true := by kernel_rfl
theorem agg_159 : aggB Tryd.prog 159 = some false := by kernel_rfl
theorem zero_159 : zeroOf Tryd.prog 159 = some (.tuple [.nilSlice, .str []]) := by kernel_rfl
theorem cells_160 : Tryd.prog.cellsOf 160 = 1 := by kernel_rfl
theorem bytes_160 : Tryd.prog.bytesOf 160 = 8 := by kernel_rfl
theorem info_160 : (Tryd.prog.info? 160).isSome = true := by kernel_rfl
theorem agg_160 : aggB Tryd.prog 160 = some false := by kernel_rfl
theorem zero_160 : zeroOf Tryd.prog 160 = some (.nilFunc) := by kernel_rfl
theorem cells_161 : Tryd.prog.cellsOf 161 = 1 := by kernel_rfl
theorem bytes_161 : Tryd.prog.bytesOf 161 = 8 := by kernel_rfl
theorem info_161 : (Tryd.prog.info? 161).isSome = true := by kernel_rfl
theorem agg_161 : aggB Tryd.prog 161 = some false := by kernel_rfl
theorem zero_161 : zeroOf Tryd.prog 161 = some (.nilFunc) := by kernel_rfl
theorem cells_162 : Tryd.prog.cellsOf 162 = 1 := by kernel_rfl
theorem bytes_162 : Tryd.prog.bytesOf 162 = 8 := by kernel_rfl
theorem info_162 : (Tryd.prog.info? 162).isSome = true := by kernel_rfl
theorem agg_162 : aggB Tryd.prog 162 = some false := by kernel_rfl
theorem zero_162 : zeroOf Tryd.prog 162 = some (.int .i64 0) := by kernel_rfl
theorem cells_163 : Tryd.prog.cellsOf 163 = 1 := by kernel_rfl
theorem bytes_163 : Tryd.prog.bytesOf 163 = 0 := by kernel_rfl
theorem info_163 : (Tryd.prog.info? 163).isSome = true := by kernel_rfl
theorem agg_163 : aggB Tryd.prog 163 = some false := by kernel_rfl
theorem zero_163 : zeroOf Tryd.prog 163 = some (.tuple [.int .u64 0, .nilIface]) := by kernel_rfl
theorem cells_164 : Tryd.prog.cellsOf 164 = 1 := by kernel_rfl
theorem bytes_164 : Tryd.prog.bytesOf 164 = 8 := by kernel_rfl
theorem info_164 : (Tryd.prog.info? 164).isSome = true := by kernel_rfl
theorem agg_164 : aggB Tryd.prog 164 = some false := by kernel_rfl
theorem zero_164 : zeroOf Tryd.prog 164 = some (.nilFunc) := by kernel_rfl
theorem cells_165 : Tryd.prog.cellsOf 165 = 1 := by kernel_rfl
theorem bytes_165 : Tryd.prog.bytesOf 165 = 8 := by kernel_rfl
theorem info_165 : (Tryd.prog.info? 165).isSome = true := by kernel_rfl
theorem agg_165 : aggB Tryd.prog 165 = some false := by kernel_rfl
theorem zero_165 : zeroOf Tryd.prog 165 = some (.nilPtr) := by kernel_rfl
theorem cells_166 : Tryd.prog.cellsOf 166 = 1 := by kernel_rfl
theorem bytes_166 : Tryd.prog.bytesOf 166 = 8 := by kernel_rfl
theorem info_166 : (Tryd.prog.info? 166).isSome = true := by kernel_rfl
theorem agg_166 : aggB Tryd.prog 166 = some false := by kernel_rfl
theorem zero_166 : zeroOf Tryd.prog 166 = some (.nilFunc) := by kernel_rfl
theorem cells_167 : Tryd.prog.cellsOf 167 = 1 := by kernel_rfl
theorem bytes_167 : Tryd.prog.bytesOf 167 = 8 := by kernel_rfl
theorem info_167 : (Tryd.prog.info? 167).isSome = true := by kernel_rfl
theorem agg_167 : aggB Tryd.prog 167 = some false := by kernel_rfl
theorem zero_167 : zeroOf Tryd.prog 167 = some (.nilFunc) := by kernel_rfl
theorem cells_168 : Tryd.prog.cellsOf 168 = 256 := by kernel_rfl
theorem bytes_168 : Tryd.prog.bytesOf 168 = 256 := by kernel_rfl
theorem info_168 : (Tryd.prog.info? 168).isSome = true := by kernel_rfl
theorem agg_168 : aggB Tryd.prog 168 = some true := by kernel_rfl
theorem bok_168 : buildOk Tryd.prog 168 = true := by kernel_rfl
theorem cells_169 : Tryd.prog.cellsOf 169 = 1 := by kernel_rfl
theorem bytes_169 : Tryd.prog.bytesOf 169 = 8 := by kernel_rfl
theorem info_169 : (Tryd.prog.info? 169).isSome = true := by kernel_rfl
theorem agg_169 : aggB Tryd.prog 169 = some false := by kernel_rfl
theorem zero_169 : zeroOf Tryd.prog 169 = some (.nilFunc) := by kernel_rfl
theorem cells_170 : Tryd.prog.cellsOf 170 = 1 := by kernel_rfl
theorem bytes_170 : Tryd.prog.bytesOf 170 = 8 := by kernel_rfl
theorem info_170 : (Tryd.prog.info? 170).isSome = true := by kernel_rfl
theorem agg_170 : aggB Tryd.prog 170 = some false := by kernel_rfl
theorem zero_170 : zeroOf Tryd.prog 170 = some (.nilFunc) := by kernel_rfl
theorem cells_171 : Tryd.prog.cellsOf 171 = 1 := by kernel_rfl
theorem bytes_171 : Tryd.prog.bytesOf 171 = 8 := by kernel_rfl
theorem info_171 : (Tryd.prog.info? 171).isSome = true := by kernel_rfl
theorem agg_171 : aggB Tryd.prog 171 = some false := by kernel_rfl
theorem zero_171 : zeroOf Tryd.prog 171 = some (.nilFunc) := by kernel_rfl
theorem cells_172 : Tryd.prog.cellsOf 172 = 1 := by kernel_rfl
theorem bytes_172 : Tryd.prog.bytesOf 172 = 8 := by kernel_rfl
theorem info_172 : (Tryd.prog.info? 172).isSome = true := by kernel_rfl
theorem agg_172 : aggB Tryd.prog 172 = some false := by kernel_rfl
theorem zero_172 : zeroOf Tryd.prog 172 = some (.nilFunc) := by kernel_rfl
theorem cells_173 : Tryd.prog.cellsOf 173 = 1 := by kernel_rfl
theorem bytes_173 : Tryd.prog.bytesOf 173 = 8 := by kernel_rfl
theorem info_173 : (Tryd.prog.info? 173).isSome = true := by kernel_rfl
theorem agg_173 : aggB Tryd.prog 173 = some false := by kernel_rfl
theorem zero_173 : zeroOf Tryd.prog 173 = some (.nilFunc) := by kernel_rfl
theorem cells_174 : Tryd.prog.cellsOf 174 = 20 := by kernel_rfl
theorem bytes_174 : Tryd.prog.bytesOf 174 = 160 := by kernel_rfl
theorem info_174 : (Tryd.prog.info? 174).isSome = true := by kernel_rfl
theorem agg_174 : aggB Tryd.prog 174 = some true := by kernel_rfl
theorem bok_174 : buildOk Tryd.prog 174 = true := by kernel_rfl
theorem zero_174 : zeroOf Tryd.prog 174 = some (.agg [.int .u64 0, .int .u64 0, .int .u64 0, .int .u64 0, .int .u64 0, .int .u64 0, .int .u64 0, .int .u64 0, .int .u64 0, .int .u64 0, .int .u64 0, .int .u64 0, .int .u64 0, .int .u64 0, .int .u64 0, .int .u64 0, .int .u64 0, .int .u64 0, .int .u64 0, .int .u64 0]) := by kernel_rfl
theorem cells_175 : Tryd.prog.cellsOf 175 = 1 := by kernel_rfl
theorem bytes_175 : Tryd.prog.bytesOf 175 = 4 := by kernel_rfl
theorem info_175 : (Tryd.prog.info? 175).isSome = true := by kernel_rfl
theorem agg_175 : aggB Tryd.prog 175 = some false := by kernel_rfl
theorem zero_175 : zeroOf Tryd.prog 175 = some (.int .u32 0) := by kernel_rfl
theorem cells_176 : Tryd.prog.cellsOf 176 = 65 := by kernel_rfl
theorem bytes_176 : Tryd.prog.bytesOf 176 = 65 := by kernel_rfl
theorem info_176 : (Tryd.prog.info? 176).isSome = true := by kernel_rfl
theorem agg_176 : aggB Tryd.prog 176 = some true := by kernel_rfl
theorem bok_176 : buildOk Tryd.prog 176 = true := by kernel_rfl
theorem zero_176 : zeroOf Tryd.prog 176 = some (.agg [.int .u8 0, .int .u8 0, .int .u8 0, .int .u8 0, .int .u8 0, .int .u8 0, .int .u8 0, .int .u8 0, .int .u8 0, .int .u8 0, .int .u8 0, .int .u8 0, .int .u8 0, .int .u8 0, .int .u8 0, .int .u8 0, .int .u8 0, .int .u8 0, .int .u8 0, .int .u8 0, .int .u8 0, .int .u8 0, .int .u8 0, .int .u8 0, .int .u8 0, .int .u8 0, .int .u8 0, .int .u8 0, .int .u8 0, .int .u8 0, .int .u8 0, .int .u8 0, .int .u8 0, .int .u8 0, .int .u8 0, .int .u8 0, .int .u8 0, .int .u8 0, .int .u8 0, .int .u8 0, .int .u8 0, .int .u8 0, .int .u8 0, .int .u8 0, .int .u8 0, .int .u8 0, .int .u8 0, .int .u8 0, .int .u8 0, .int .u8 0, .int .u8 0, .int .u8 0, .int .u8 0, .int .u8 0, .int .u8 0, .int .u8 0, .int .u8 0, .int .u8 0, .int .u8 0, .int .u8 0, .int .u8 0, .int .u8 0, .int .u8 0, .int .u8 0, .int .u8 0]) := by kernel_rfl
theorem cells_177 : Tryd.prog.cellsOf 177 = 1 := by kernel_rfl
theorem bytes_177 : Tryd.prog.bytesOf 177 = 8 := by kernel_rfl
theorem info_177 : (Tryd.prog.info? 177).isSome = true := by kernel_rfl
theorem agg_177 : aggB Tryd.prog 177 = some false := by kernel_rfl
theorem zero_177 : zeroOf Tryd.prog 177 = some (.nilFunc) := by kernel_rfl
theorem cells_178 : Tryd.prog.cellsOf 178 = 1 := by kernel_rfl
theorem bytes_178 : Tryd.prog.bytesOf 178 = 8 := by kernel_rfl
theorem info_178 : (Tryd.prog.info? 178).isSome = true := by kernel_rfl
theorem agg_178 : aggB Tryd.prog 178 = some false := by kernel_rfl
theorem zero_178 : zeroOf Tryd.prog 178 = some (.nilFunc) := by kernel_rfl
theorem cells_179 : Tryd.prog.cellsOf 179 = 1 := by kernel_rfl
theorem bytes_179 : Tryd.prog.bytesOf 179 = 8 := by kernel_rfl
theorem info_179 : (Tryd.prog.info? 179).isSome = true := by kernel_rfl
theorem agg_179 : aggB Tryd.prog 179 = some false := by kernel_rfl
theorem zero_179 : zeroOf Tryd.prog 179 = some (.nilFunc) := by kernel_rfl
theorem cells_180 : Tryd.prog.cellsOf 180 = 1 := by kernel_rfl
theorem bytes_180 : Tryd.prog.bytesOf 180 = 8 := by kernel_rfl
theorem info_180 : (Tryd.prog.info? 180).isSome = true := by kernel_rfl
theorem agg_180 : aggB Tryd.prog 180 = some false := by kernel_rfl
theorem zero_180 : zeroOf Tryd.prog 180 = some (.nilFunc) := by kernel_rfl
theorem cells_181 : Tryd.prog.cellsOf 181 = 3 := by kernel_rfl
theorem bytes_181 : Tryd.prog.bytesOf 181 = 48 := by kernel_rfl
theorem info_181 : (Tryd.prog.info? 181).isSome = true := by kernel_rfl
theorem agg_181 : aggB Tryd.prog 181 = some true := by kernel_rfl
theorem bok_181 : buildOk Tryd.prog 181 = true := by kernel_rfl
theorem zero_181 : zeroOf Tryd.prog 181 = some (.agg [.str [], .str [], .nilIface]) := by kernel_rfl
theorem cells_182 : Tryd.prog.cellsOf 182 = 3 := by kernel_rfl
theorem bytes_182 : Tryd.prog.bytesOf 182 = 48 := by kernel_rfl
theorem info_182 : (Tryd.prog.info? 182).isSome = true := by kernel_rfl
theorem agg_182 : aggB Tryd.prog 182 = some true := by kernel_rfl
theorem bok_182 : buildOk Tryd.prog 182 = true := by kernel_rfl
theorem zero_182 : zeroOf Tryd.prog 182 = some (.agg [.str [], .str [], .nilIface]) := by kernel_rfl
theorem cells_183 : Tryd.prog.cellsOf 183 = 1 := by kernel_rfl
theorem bytes_183 : Tryd.prog.bytesOf 183 = 8 := by kernel_rfl
theorem info_183 : (Tryd.prog.info? 183).isSome = true := by kernel_rfl
theorem agg_183 : aggB Tryd.prog 183 = some false := by kernel_rfl
theorem zero_183 : zeroOf Tryd.prog 183 = some (.nilFunc) := by kernel_rfl
theorem cells_184 : Tryd.prog.cellsOf 184 = 1 := by kernel_rfl
theorem bytes_184 : Tryd.prog.bytesOf 184 = 24 := by kernel_rfl
theorem info_184 : (Tryd.prog.info? 184).isSome = true := by kernel_rfl
theorem agg_184 : aggB Tryd.prog 184 = some false := by kernel_rfl
theorem zero_184 : zeroOf Tryd.prog 184 = some (.nilSlice) := by kernel_rfl
theorem cells_185 : Tryd.prog.cellsOf 185 = 2 := by kernel_rfl
theorem bytes_185 : Tryd.prog.bytesOf 185 = 16 := by kernel_rfl
theorem info_185 : (Tryd.prog.info? 185).isSome = true := by kernel_rfl
theorem agg_185 : aggB Tryd.prog 185 = some true := by kernel_rfl
theorem bok_185 : buildOk Tryd.prog 185 = true := by kernel_rfl
theorem zero_185 : zeroOf Tryd.prog 185 = some (.agg [.int .i64 0, .int .i64 0]) := by kernel_rfl
theorem cells_186 : Tryd.prog.cellsOf 186 = 2 := by kernel_rfl
theorem bytes_186 : Tryd.prog.bytesOf 186 = 16 := by kernel_rfl
theorem info_186 : (Tryd.prog.info? 186).isSome = true := by kernel_rfl
theorem agg_186 : aggB Tryd.prog 186 = some true := by kernel_rfl
theorem bok_186 : buildOk Tryd.prog 186 = true := by kernel_rfl
theorem zero_186 : zeroOf Tryd.prog 186 = some (.agg [.int .i64 0, .int .i64 0]) := by kernel_rfl
theorem cells_187 : Tryd.prog.cellsOf 187 = 1 := by kernel_rfl
theorem bytes_187 : Tryd.prog.bytesOf 187 = 8 := by kernel_rfl
theorem info_187 : (Tryd.prog.info? 187).isSome = true := by kernel_rfl
theorem agg_187 : aggB Tryd.prog 187 = some false := by kernel_rfl
theorem zero_187 : zeroOf Tryd.prog 187 = some (.nilFunc) := by kernel_rfl
theorem cells_188 : Tryd.prog.cellsOf 188 = 1 := by kernel_rfl
theorem bytes_188 : Tryd.prog.bytesOf 188 = 8 := by kernel_rfl
theorem info_188 : (Tryd.prog.info? 188).isSome = true := by kernel_rfl
theorem agg_188 : aggB Tryd.prog 188 = some false := by kernel_rfl
theorem zero_188 : zeroOf Tryd.prog 188 = some (.nilPtr) := by kernel_rfl
theorem cells_189 : Tryd.prog.cellsOf 189 = 1 := by kernel_rfl
theorem bytes_189 : Tryd.prog.bytesOf 189 = 8 := by kernel_rfl
theorem info_189 : (Tryd.prog.info? 189).isSome = true := by kernel_rfl
theorem agg_189 : aggB Tryd.prog 189 = some false := by kernel_rfl
theorem zero_189 : zeroOf Tryd.prog 189 = some (.nilFunc) := by kernel_rfl
theorem cells_190 : Tryd.prog.cellsOf 190 = 1 := by kernel_rfl
theorem bytes_190 : Tryd.prog.bytesOf 190 = 0 := by kernel_rfl
theorem info_190 : (Tryd.prog.info? 190).isSome = true := by kernel_rfl
theorem agg_190 : aggB Tryd.prog 190 = some false := by kernel_rfl
theorem zero_190 : zeroOf Tryd.prog 190 = some (.tuple [.int .i32 0, .int .i64 0]) := by kernel_rfl
theorem cells_191 : Tryd.prog.cellsOf 191 = 1 := by kernel_rfl
theorem bytes_191 : Tryd.prog.bytesOf 191 = 8 := by kernel_rfl
theorem info_191 : (Tryd.prog.info? 191).isSome = true := by kernel_rfl
theorem agg_191 : aggB Tryd.prog 191 = some false := by kernel_rfl
theorem zero_191 : zeroOf Tryd.prog 191 = some (.nilFunc) := by kernel_rfl
theorem cells_192 : Tryd.prog.cellsOf 192 = 1 := by kernel_rfl
theorem bytes_192 : Tryd.prog.bytesOf 192 = 8 := by kernel_rfl
theorem info_192 : (Tryd.prog.info? 192).isSome = true := by kernel_rfl
theorem agg_192 : aggB Tryd.prog 192 = some false := by kernel_rfl
theorem zero_192 : zeroOf Tryd.prog 192 = some (.nilFunc) := by kernel_rfl
theorem cells_193 : Tryd.prog.cellsOf 193 = 1 := by kernel_rfl
theorem bytes_193 : Tryd.prog.bytesOf 193 = 0 := by kernel_rfl
theorem info_193 : (Tryd.prog.info? 193).isSome = true := by kernel_rfl
theorem agg_193 : aggB Tryd.prog 193 = some false := by kernel_rfl
theorem zero_193 : zeroOf Tryd.prog 193 = some (.tuple [.int .u32 0, .int .u32 0]) := by kernel_rfl
theorem cells_194 : Tryd.prog.cellsOf 194 = 1 := by kernel_rfl
theorem bytes_194 : Tryd.prog.bytesOf 194 = 8 := by kernel_rfl
theorem info_194 : (Tryd.prog.info? 194).isSome = true := by kernel_rfl
theorem agg_194 : aggB Tryd.prog 194 = some false := by kernel_rfl
theorem zero_194 : zeroOf Tryd.prog 194 = some (.nilFunc) := by kernel_rfl
theorem cells_195 : Tryd.prog.cellsOf 195 = 1 := by kernel_rfl
theorem bytes_195 : Tryd.prog.bytesOf 195 = 8 := by kernel_rfl
theorem info_195 : (Tryd.prog.info? 195).isSome = true := by kernel_rfl
theorem agg_195 : aggB Tryd.prog 195 = some false := by kernel_rfl
theorem zero_195 : zeroOf Tryd.prog 195 = some (.nilPtr) := by kernel_rfl
theorem cells_196 : Tryd.prog.cellsOf 196 = 1 := by kernel_rfl
theorem bytes_196 : Tryd.prog.bytesOf 196 = 16 := by kernel_rfl
theorem info_196 : (Tryd.prog.info? 196).isSome = true := by kernel_rfl
theorem agg_196 : aggB Tryd.prog 196 = some true := by kernel_rfl
theorem bok_196 : buildOk Tryd.prog 196 = true := by kernel_rfl
theorem zero_196 : zeroOf Tryd.prog 196 = some (.agg [.str []]) := by kernel_rfl
theorem cells_197 : Tryd.prog.cellsOf 197 = 1 := by kernel_rfl
theorem bytes_197 : Tryd.prog.bytesOf 197 = 16 := by kernel_rfl
theorem info_197 : (Tryd.prog.info? 197).isSome = true := by kernel_rfl
theorem agg_197 : aggB Tryd.prog 197 = some true := by kernel_rfl
theorem bok_197 : buildOk Tryd.prog 197 = true := by kernel_rfl
theorem zero_197 : zeroOf Tryd.prog 197 = some (.agg [.str []]) := by kernel_rfl
theorem cells_198 : Tryd.prog.cellsOf 198 = 1 := by kernel_rfl
theorem bytes_198 : Tryd.prog.bytesOf 198 = 24 := by kernel_rfl
theorem info_198 : (Tryd.prog.info? 198).isSome = true := by kernel_rfl
theorem agg_198 : aggB Tryd.prog 198 = some false := by kernel_rfl
theorem zero_198 : zeroOf Tryd.prog 198 = some (.nilSlice) := by kernel_rfl
theorem cells_199 : Tryd.prog.cellsOf 199 = 1 := by kernel_rfl
theorem bytes_199 : Tryd.prog.bytesOf 199 = 24 := by kernel_rfl
theorem info_199 : (Tryd.prog.info? 199).isSome = true := by kernel_rfl
theorem agg_199 : aggB Tryd.prog 199 = some false := by kernel_rfl
theorem zero_199 : zeroOf Tryd.prog 199 = some (.nilSlice) := by kernel_rfl
theorem cells_200 : Tryd.prog.cellsOf 200 = 3 := by kernel_rfl
theorem bytes_200 : Tryd.prog.bytesOf 200 = 56 := by kernel_rfl
theorem info_200 : (Tryd.prog.info? 200).isSome = true := by kernel_rfl
theorem agg_200 : aggB Tryd.prog 200 = some true := by kernel_rfl
theorem bok_200 : buildOk Tryd.prog 200 = true := by kernel_rfl
theorem zero_200 : zeroOf Tryd.prog 200 = some (.agg [.nilSlice, .nilSlice, .int .i64 0]) := by kernel_rfl
theorem cells_201 : Tryd.prog.cellsOf 201 = 3 := by kernel_rfl
theorem bytes_201 : Tryd.prog.bytesOf 201 = 56 := by kernel_rfl
theorem info_201 : (Tryd.prog.info? 201).isSome = true := by kernel_rfl
theorem agg_201 : aggB Tryd.prog 201 = some true := by kernel_rfl
theorem bok_201 : buildOk Tryd.prog 201 = true := by kernel_rfl
theorem zero_201 : zeroOf Tryd.prog 201 = some (.agg [.nilSlice, .nilSlice, .int .i64 0]) := by kernel_rfl
theorem cells_202 : Tryd.prog.cellsOf 202 = 1 := by kernel_rfl
theorem bytes_202 : Tryd.prog.bytesOf 202 = 2 := by kernel_rfl
theorem info_202 : (Tryd.prog.info? 202).isSome = true := by kernel_rfl
theorem agg_202 : aggB Tryd.prog 202 = some false := by kernel_rfl
theorem zero_202 : zeroOf Tryd.prog 202 = some (.int .u16 0) := by kernel_rfl
theorem cells_203 : Tryd.prog.cellsOf 203 = 3 := by kernel_rfl
theorem bytes_203 : Tryd.prog.bytesOf 203 = 6 := by kernel_rfl
theorem info_203 : (Tryd.prog.info? 203).isSome = true := by kernel_rfl
theorem agg_203 : aggB Tryd.prog 203 = some true := by kernel_rfl
theorem bok_203 : buildOk Tryd.prog 203 = true := by kernel_rfl
theorem zero_203 : zeroOf Tryd.prog 203 = some (.agg [.int .u16 0, .int .u16 0, .int .u16 0]) := by kernel_rfl
theorem cells_204 : Tryd.prog.cellsOf 204 = 3 := by kernel_rfl
theorem bytes_204 : Tryd.prog.bytesOf 204 = 6 := by kernel_rfl
theorem info_204 : (Tryd.prog.info? 204).isSome = true := by kernel_rfl
theorem agg_204 : aggB Tryd.prog 204 = some true := by kernel_rfl
theorem bok_204 : buildOk Tryd.prog 204 = true := by kernel_rfl
theorem zero_204 : zeroOf Tryd.prog 204 = some (.agg [.int .u16 0, .int .u16 0, .int .u16 0]) := by kernel_rfl
theorem cells_205 : Tryd.prog.cellsOf 205 = 1 := by kernel_rfl
theorem bytes_205 : Tryd.prog.bytesOf 205 = 8 := by kernel_rfl
theorem info_205 : (Tryd.prog.info? 205).isSome = true := by kernel_rfl
theorem agg_205 : aggB Tryd.prog 205 = some false := by kernel_rfl
theorem zero_205 : zeroOf Tryd.prog 205 = some (.nilFunc) := by kernel_rfl
theorem cells_206 : Tryd.prog.cellsOf 206 = 3 := by kernel_rfl
theorem bytes_206 : Tryd.prog.bytesOf 206 = 12 := by kernel_rfl
theorem info_206 : (Tryd.prog.info? 206).isSome = true := by kernel_rfl
theorem agg_206 : aggB Tryd.prog 206 = some true := by kernel_rfl
theorem bok_206 : buildOk Tryd.prog 206 = true := by kernel_rfl
theorem zero_206 : zeroOf Tryd.prog 206 = some (.agg [.int .u32 0, .int .u32 0, .int .u32 0]) := by kernel_rfl
theorem cells_207 : Tryd.prog.cellsOf 207 = 3 := by kernel_rfl
theorem bytes_207 : Tryd.prog.bytesOf 207 = 12 := by kernel_rfl
theorem info_207 : (Tryd.prog.info? 207).isSome = true := by kernel_rfl
theorem agg_207 : aggB Tryd.prog 207 = some true := by kernel_rfl
theorem bok_207 : buildOk Tryd.prog 207 = true := by kernel_rfl
theorem zero_207 : zeroOf Tryd.prog 207 = some (.agg [.int .u32 0, .int .u32 0, .int .u32 0]) := by kernel_rfl
theorem cells_208 : Tryd.prog.cellsOf 208 = 1 := by kernel_rfl
theorem bytes_208 : Tryd.prog.bytesOf 208 = 8 := by kernel_rfl
theorem info_208 : (Tryd.prog.info? 208).isSome = true := by kernel_rfl
theorem agg_208 : aggB Tryd.prog 208 = some false := by kernel_rfl
theorem zero_208 : zeroOf Tryd.prog 208 = some (.nilFunc) := by kernel_rfl
theorem cells_209 : Tryd.prog.cellsOf 209 = 32 := by kernel_rfl
theorem bytes_209 : Tryd.prog.bytesOf 209 = 32 := by kernel_rfl
theorem info_209 : (Tryd.prog.info? 209).isSome = true := by kernel_rfl
theorem agg_209 : aggB Tryd.prog 209 = some true := by kernel_rfl
theorem bok_209 : buildOk Tryd.prog 209 = true := by kernel_rfl
theorem zero_209 : zeroOf Tryd.prog 209 = some (.agg [.int .u8 0, .int .u8 0, .int .u8 0, .int .u8 0, .int .u8 0, .int .u8 0, .int .u8 0, .int .u8 0, .int .u8 0, .int .u8 0, .int .u8 0, .int .u8 0, .int .u8 0, .int .u8 0, .int .u8 0, .int .u8 0, .int .u8 0, .int .u8 0, .int .u8 0, .int .u8 0, .int .u8 0, .int .u8 0, .int .u8 0, .int .u8 0, .int .u8 0, .int .u8 0, .int .u8 0, .int .u8 0, .int .u8 0, .int .u8 0, .int .u8 0, .int .u8 0]) := by kernel_rfl
theorem cells_210 : Tryd.prog.cellsOf 210 = 64 := by kernel_rfl
theorem bytes_210 : Tryd.prog.bytesOf 210 = 64 := by kernel_rfl
theorem info_210 : (Tryd.prog.info? 210).isSome = true := by kernel_rfl
theorem agg_210 : aggB Tryd.prog 210 = some true := by kernel_rfl
theorem bok_210 : buildOk Tryd.prog 210 = true := by kernel_rfl
theorem zero_210 : zeroOf Tryd.prog 210 = some (.agg [.int .u8 0, .int .u8 0, .int .u8 0, .int .u8 0, .int .u8 0, .int .u8 0, .int .u8 0, .int .u8 0, .int .u8 0, .int .u8 0, .int .u8 0, .int .u8 0, .int .u8 0, .int .u8 0, .int .u8 0, .int .u8 0, .int .u8 0, .int .u8 0, .int .u8 0, .int .u8 0, .int .u8 0, .int .u8 0, .int .u8 0, .int .u8 0, .int .u8 0, .int .u8 0, .int .u8 0, .int .u8 0, .int .u8 0, .int .u8 0, .int .u8 0, .int .u8 0, .int .u8 0, .int .u8 0, .int .u8 0, .int .u8 0, .int .u8 0, .int .u8 0, .int .u8 0, .int .u8 0, .int .u8 0, .int .u8 0, .int .u8 0, .int .u8 0, .int .u8 0, .int .u8 0, .int .u8 0, .int .u8 0, .int .u8 0, .int .u8 0, .int .u8 0, .int .u8 0, .int .u8 0, .int .u8 0, .int .u8 0, .int .u8 0, .int .u8 0, .int .u8 0, .int .u8 0, .int .u8 0, .int .u8 0, .int .u8 0, .int .u8 0, .int .u8 0]) := by kernel_rfl
theorem cells_211 : Tryd.prog.cellsOf 211 = 1 := by kernel_rfl
theorem bytes_211 : Tryd.prog.bytesOf 211 = 8 := by kernel_rfl
theorem info_211 : (Tryd.prog.info? 211).isSome = true := by kernel_rfl
theorem agg_211 : aggB Tryd.prog 211 = some false := by kernel_rfl
theorem zero_211 : zeroOf Tryd.prog 211 = some (.nilPtr) := by kernel_rfl
theorem cells_212 : Tryd.prog.cellsOf 212 = 1 := by kernel_rfl
theorem bytes_212 : Tryd.prog.bytesOf 212 = 8 := by kernel_rfl
theorem info_212 : (Tryd.prog.info? 212).isSome = true := by kernel_rfl
theorem agg_212 : aggB Tryd.prog 212 = some false := by kernel_rfl
theorem zero_212 : zeroOf Tryd.prog 212 = some (.nilPtr) := by kernel_rfl
theorem cells_213 : Tryd.prog.cellsOf 213 = 2 := by kernel_rfl
theorem bytes_213 : Tryd.prog.bytesOf 213 = 2 := by kernel_rfl
theorem info_213 : (Tryd.prog.info? 213).isSome = true := by kernel_rfl
theorem agg_213 : aggB Tryd.prog 213 = some true := by kernel_rfl
theorem bok_213 : buildOk Tryd.prog 213 = true := by kernel_rfl
theorem zero_213 : zeroOf Tryd.prog 213 = some (.agg [.int .u8 0, .int .u8 0]) := by kernel_rfl
theorem cells_214 : Tryd.prog.cellsOf 214 = 2 := by kernel_rfl
theorem bytes_214 : Tryd.prog.bytesOf 214 = 2 := by kernel_rfl
theorem info_214 : (Tryd.prog.info? 214).isSome = true := by kernel_rfl
theorem agg_214 : aggB Tryd.prog 214 = some true := by kernel_rfl
theorem bok_214 : buildOk Tryd.prog 214 = true := by kernel_rfl
theorem zero_214 : zeroOf Tryd.prog 214 = some (.agg [.int .u8 0, .int .u8 0]) := by kernel_rfl
theorem cells_215 : Tryd.prog.cellsOf 215 = 32 := by kernel_rfl
theorem bytes_215 : Tryd.prog.bytesOf 215 = 32 := by kernel_rfl
theorem info_215 : (Tryd.prog.info? 215).isSome = true := by kernel_rfl
theorem agg_215 : aggB Tryd.prog 215 = some true := by kernel_rfl
theorem bok_215 : buildOk Tryd.prog 215 = true := by kernel_rfl
theorem zero_215 : zeroOf Tryd.prog 215 = some (.agg [.int .u8 0, .int .u8 0, .int .u8 0, .int .u8 0, .int .u8 0, .int .u8 0, .int .u8 0, .int .u8 0, .int .u8 0, .int .u8 0, .int .u8 0, .int .u8 0, .int .u8 0, .int .u8 0, .int .u8 0, .int .u8 0, .int .u8 0, .int .u8 0, .int .u8 0, .int .u8 0, .int .u8 0, .int .u8 0, .int .u8 0, .int .u8 0, .int .u8 0, .int .u8 0, .int .u8 0, .int .u8 0, .int .u8 0, .int .u8 0, .int .u8 0, .int .u8 0]) := by kernel_rfl
theorem cells_216 : Tryd.prog.cellsOf 216 = 4 := by kernel_rfl
theorem bytes_216 : Tryd.prog.bytesOf 216 = 40 := by kernel_rfl
theorem info_216 : (Tryd.prog.info? 216).isSome = true := by kernel_rfl
theorem agg_216 : aggB Tryd.prog 216 = some true := by kernel_rfl
theorem bok_216 : buildOk Tryd.prog 216 = true := by kernel_rfl
theorem zero_216 : zeroOf Tryd.prog 216 = some (.agg [.nilPtr, .nilPtr, .nilPtr, .str []]) := by kernel_rfl
theorem cells_217 : Tryd.prog.cellsOf 217 = 4 := by kernel_rfl
theorem bytes_217 : Tryd.prog.bytesOf 217 = 40 := by kernel_rfl
theorem info_217 : (Tryd.prog.info? 217).isSome = true := by kernel_rfl
theorem agg_217 : aggB Tryd.prog 217 = some true := by kernel_rfl
theorem bok_217 : buildOk Tryd.prog 217 = true := by kernel_rfl
theorem zero_217 : zeroOf Tryd.prog 217 = some (.agg [.nilPtr, .nilPtr, .nilPtr, .str []]) := by kernel_rfl
theorem cells_218 : Tryd.prog.cellsOf 218 = 0 := by kernel_rfl
theorem bytes_218 : Tryd.prog.bytesOf 218 = 0 := by kernel_rfl
theorem info_218 : (Tryd.prog.info? 218).isSome = true := by kernel_rfl
theorem agg_218 : aggB Tryd.prog 218 = some true := by kernel_rfl
theorem bok_218 : buildOk Tryd.prog 218 = true := by kernel_rfl
theorem zero_218 : zeroOf Tryd.prog 218 = some (.agg []) := by kernel_rfl
theorem cells_219 : Tryd.prog.cellsOf 219 = 0 := by kernel_rfl
theorem bytes_219 : Tryd.prog.bytesOf 219 = 0 := by kernel_rfl
theorem info_219 : (Tryd.prog.info? 219).isSome = true := by kernel_rfl
theorem agg_219 : aggB Tryd.prog 219 = some true := by kernel_rfl
theorem bok_219 : buildOk Tryd.prog 219 = true := by kernel_rfl
theorem zero_219 : zeroOf Tryd.prog 219 = some (.agg []) := by kernel_rfl
theorem cells_220 : Tryd.prog.cellsOf 220 = 0 := by kernel_rfl
theorem bytes_220 : Tryd.prog.bytesOf 220 = 0 := by kernel_rfl
theorem info_220 : (Tryd.prog.info? 220).isSome = true := by kernel_rfl
theorem agg_220 : aggB Tryd.prog 220 = some true := by kernel_rfl
theorem bok_220 : buildOk Tryd.prog 220 = true := by kernel_rfl
theorem zero_220 : zeroOf Tryd.prog 220 = some (.agg []) := by kernel_rfl
theorem cells_221 : Tryd.prog.cellsOf 221 = 1 := by kernel_rfl
theorem bytes_221 : Tryd.prog.bytesOf 221 = 8 := by kernel_rfl
theorem info_221 : (Tryd.prog.info? 221).isSome = true := by kernel_rfl
theorem agg_221 : aggB Tryd.prog 221 = some false := by kernel_rfl
theorem zero_221 : zeroOf Tryd.prog 221 = some (.nilFunc) := by kernel_rfl
theorem cells_222 : Tryd.prog.cellsOf 222 = 1 := by kernel_rfl
theorem bytes_222 : Tryd.prog.bytesOf 222 = 1 := by kernel_rfl
theorem info_222 : (Tryd.prog.info? 222).isSome = true := by kernel_rfl
theorem agg_222 : aggB Tryd.prog 222 = some false := by kernel_rfl
theorem zero_222 : zeroOf Tryd.prog 222 = some (.int .u8 0) := by kernel_rfl
theorem cells_223 : Tryd.prog.cellsOf 223 = 1 := by kernel_rfl
theorem bytes_223 : Tryd.prog.bytesOf 223 = 1 := by kernel_rfl
theorem info_223 : (Tryd.prog.info? 223).isSome = true := by kernel_rfl
theorem agg_223 : aggB Tryd.prog 223 = some false := by kernel_rfl
theorem zero_223 : zeroOf Tryd.prog 223 = some (.int .u8 0) := by kernel_rfl
theorem cells_224 : Tryd.prog.cellsOf 224 = 1 := by kernel_rfl
theorem bytes_224 : Tryd.prog.bytesOf 224 = 8 := by kernel_rfl
theorem info_224 : (Tryd.prog.info? 224).isSome = true := by kernel_rfl
theorem agg_224 : aggB Tryd.prog 224 = some false := by kernel_rfl
theorem zero_224 : zeroOf Tryd.prog 224 = some (.nilFunc) := by kernel_rfl
theorem cells_225 : Tryd.prog.cellsOf 225 = 1 := by kernel_rfl
theorem bytes_225 : Tryd.prog.bytesOf 225 = 4 := by kernel_rfl
theorem info_225 : (Tryd.prog.info? 225).isSome = true := by kernel_rfl
theorem agg_225 : aggB Tryd.prog 225 = some false := by kernel_rfl
theorem zero_225 : zeroOf Tryd.prog 225 = some (.int .i32 0) := by kernel_rfl
theorem cells_226 : Tryd.prog.cellsOf 226 = 1 := by kernel_rfl
theorem bytes_226 : Tryd.prog.bytesOf 226 = 4 := by kernel_rfl
theorem info_226 : (Tryd.prog.info? 226).isSome = true := by kernel_rfl
theorem agg_226 : aggB Tryd.prog 226 = some false := by kernel_rfl
theorem zero_226 : zeroOf Tryd.prog 226 = some (.int .i32 0) := by kernel_rfl
theorem cells_227 : Tryd.prog.cellsOf 227 = 11 := by kernel_rfl
theorem bytes_227 : Tryd.prog.bytesOf 227 = 48 := by kernel_rfl
theorem info_227 : (Tryd.prog.info? 227).isSome = true := by kernel_rfl
theorem agg_227 : aggB Tryd.prog 227 = some true := by kernel_rfl
theorem bok_227 : buildOk Tryd.prog 227 = true := by kernel_rfl
theorem zero_227 : zeroOf Tryd.prog 227 = some (.agg [.int .u64 0, .int .u64 0, .int .u32 0, .int .u8 0, .int .u8 0, .int .u8 0, .int .u8 0, .nilFunc, .nilPtr, .int .i32 0, .int .i32 0]) := by kernel_rfl
theorem cells_228 : Tryd.prog.cellsOf 228 = 11 := by kernel_rfl
theorem bytes_228 : Tryd.prog.bytesOf 228 = 48 := by kernel_rfl
theorem info_228 : (Tryd.prog.info? 228).isSome = true := by kernel_rfl
theorem agg_228 : aggB Tryd.prog 228 = some true := by kernel_rfl
theorem bok_228 : buildOk Tryd.prog 228 = true := by kernel_rfl
theorem zero_228 : zeroOf Tryd.prog 228 = some (.agg [.int .u64 0, .int .u64 0, .int .u32 0, .int .u8 0, .int .u8 0, .int .u8 0, .int .u8 0, .nilFunc, .nilPtr, .int .i32 0, .int .i32 0]) := by kernel_rfl
attribute [go_sem] cells_0 bytes_0 info_0 agg_0 zero_0 Tryd.underlying0 cells_1 bytes_1 info_1 agg_1 zero_1 Tryd.underlying1
attribute [go_sem] cells_2 bytes_2 info_2 agg_2 zero_2 Tryd.underlying2 cells_3 bytes_3 info_3 agg_3 zero_3 Tryd.underlying3
attribute [go_sem] cells_4 bytes_4 info_4 agg_4 zero_4 Tryd.underlying4 cells_5 bytes_5 info_5 agg_5 zero_5 Tryd.underlying5
attribute [go_sem] cells_6 bytes_6 info_6 agg_6 zero_6 Tryd.underlying6 cells_7 bytes_7 info_7 agg_7 bok_7 Tryd.eqGuardType7
attribute [go_sem] Tryd.stoodInHeld7 zero_7 Tryd.underlying7 cells_8 bytes_8 info_8 agg_8 bok_8 Tryd.eqGuardType8 Tryd.stoodInHeld8 zero_8 Tryd.underlying8
attribute [go_sem] cells_9 bytes_9 info_9 agg_9 zero_9 Tryd.underlying9 cells_10 bytes_10 info_10 agg_10 zero_10 Tryd.underlying10
attribute [go_sem] cells_11 bytes_11 info_11 agg_11 zero_11 Tryd.underlying11 cells_12 bytes_12 info_12 agg_12 zero_12 Tryd.underlying12
attribute [go_sem] cells_13 bytes_13 info_13 agg_13 bok_13 Tryd.eqGuardType13 Tryd.stoodInHeld13 zero_13 Tryd.underlying13 cells_14 bytes_14 info_14
attribute [go_sem] agg_14 bok_14 Tryd.eqGuardType14 Tryd.stoodInHeld14 zero_14 Tryd.underlying14 cells_15 bytes_15 info_15 agg_15 zero_15 Tryd.underlying15
attribute [go_sem] cells_16 bytes_16 info_16 agg_16 zero_16 Tryd.underlying16 cells_17 bytes_17 info_17 agg_17 zero_17 Tryd.underlying17
attribute [go_sem] cells_18 bytes_18 info_18 agg_18 bok_18 Tryd.eqGuardType18 Tryd.stoodInHeld18 zero_18 Tryd.underlying18 cells_19 bytes_19 info_19
attribute [go_sem] agg_19 bok_19 Tryd.eqGuardType19 Tryd.stoodInHeld19 zero_19 Tryd.underlying19 cells_20 bytes_20 info_20 agg_20 zero_20 Tryd.underlying20
attribute [go_sem] cells_21 bytes_21 info_21 agg_21 zero_21 Tryd.underlying21 cells_22 bytes_22 info_22 agg_22 bok_22 Tryd.eqGuardType22
attribute [go_sem] zero_22 Tryd.underlying22 cells_23 bytes_23 info_23 agg_23 bok_23 Tryd.eqGuardType23 zero_23 Tryd.underlying23 cells_24 bytes_24
attribute [go_sem] info_24 agg_24 zero_24 Tryd.underlying24 cells_25 bytes_25 info_25 agg_25 zero_25 Tryd.underlying25 cells_26 bytes_26
attribute [go_sem] info_26 agg_26 zero_26 Tryd.underlying26 cells_27 bytes_27 info_27 agg_27 zero_27 Tryd.underlying27 cells_28 bytes_28
attribute [go_sem] info_28 agg_28 zero_28 Tryd.underlying28 cells_29 bytes_29 info_29 agg_29 zero_29 Tryd.underlying29 cells_30 bytes_30
attribute [go_sem] info_30 agg_30 zero_30 Tryd.underlying30 cells_31 bytes_31 info_31 agg_31 zero_31 Tryd.underlying31 cells_32 bytes_32
attribute [go_sem] info_32 agg_32 zero_32 Tryd.underlying32 cells_33 bytes_33 info_33 agg_33 zero_33 Tryd.underlying33 cells_34 bytes_34
attribute [go_sem] info_34 agg_34 zero_34 Tryd.underlying34 cells_35 bytes_35 info_35 agg_35 zero_35 Tryd.underlying35 cells_36 bytes_36
attribute [go_sem] info_36 agg_36 zero_36 Tryd.underlying36 cells_37 bytes_37 info_37 agg_37 zero_37 Tryd.underlying37 cells_38 bytes_38
attribute [go_sem] info_38 agg_38 zero_38 Tryd.underlying38 cells_39 bytes_39 info_39 agg_39 zero_39 Tryd.underlying39 cells_40 bytes_40
attribute [go_sem] info_40 agg_40 zero_40 Tryd.underlying40 cells_41 bytes_41 info_41 agg_41 zero_41 Tryd.underlying41 cells_42 bytes_42
attribute [go_sem] info_42 agg_42 zero_42 Tryd.underlying42 cells_43 bytes_43 info_43 agg_43 zero_43 Tryd.underlying43 cells_44 bytes_44
attribute [go_sem] info_44 agg_44 zero_44 Tryd.underlying44 cells_45 bytes_45 info_45 agg_45 zero_45 Tryd.underlying45 cells_46 bytes_46
attribute [go_sem] info_46 agg_46 zero_46 Tryd.underlying46 cells_47 bytes_47 info_47 agg_47 zero_47 Tryd.underlying47 cells_48 bytes_48
attribute [go_sem] info_48 agg_48 zero_48 Tryd.underlying48 cells_49 bytes_49 info_49 agg_49 zero_49 Tryd.underlying49 cells_50 bytes_50
attribute [go_sem] info_50 agg_50 zero_50 Tryd.underlying50 cells_51 bytes_51 info_51 agg_51 zero_51 Tryd.underlying51 cells_52 bytes_52
attribute [go_sem] info_52 agg_52 bok_52 Tryd.eqGuardType52 Tryd.stoodInHeld52 zero_52 Tryd.underlying52 cells_53 bytes_53 info_53 agg_53 bok_53
attribute [go_sem] Tryd.eqGuardType53 Tryd.stoodInHeld53 zero_53 Tryd.underlying53 cells_54 bytes_54 info_54 agg_54 zero_54 Tryd.underlying54 cells_55 bytes_55
attribute [go_sem] info_55 agg_55 zero_55 Tryd.underlying55 cells_56 bytes_56 info_56 agg_56 zero_56 Tryd.underlying56 cells_57 bytes_57
attribute [go_sem] info_57 agg_57 zero_57 Tryd.underlying57 cells_58 bytes_58 info_58 agg_58 zero_58 Tryd.underlying58 cells_59 bytes_59
attribute [go_sem] info_59 agg_59 zero_59 Tryd.underlying59 cells_60 bytes_60 info_60 agg_60 zero_60 Tryd.underlying60 cells_61 bytes_61
attribute [go_sem] info_61 agg_61 zero_61 Tryd.underlying61 cells_62 bytes_62 info_62 agg_62 zero_62 Tryd.underlying62 cells_63 bytes_63
attribute [go_sem] info_63 agg_63 zero_63 Tryd.underlying63 cells_64 bytes_64 info_64 agg_64 bok_64 Tryd.eqGuardType64 Tryd.stoodInHeld64 zero_64
attribute [go_sem] Tryd.underlying64 cells_65 bytes_65 info_65 agg_65 bok_65 Tryd.eqGuardType65 Tryd.stoodInHeld65 zero_65 Tryd.underlying65 cells_66 bytes_66
attribute [go_sem] info_66 agg_66 zero_66 Tryd.underlying66 cells_67 bytes_67 info_67 agg_67 zero_67 Tryd.underlying67 cells_68 bytes_68
attribute [go_sem] info_68 agg_68 zero_68 Tryd.underlying68 cells_69 bytes_69 info_69 agg_69 zero_69 Tryd.underlying69 cells_70 bytes_70
attribute [go_sem] info_70 agg_70 zero_70 Tryd.underlying70 cells_71 bytes_71 info_71 agg_71 zero_71 Tryd.underlying71 cells_72 bytes_72
attribute [go_sem] info_72 agg_72 zero_72 Tryd.underlying72 cells_73 bytes_73 info_73 agg_73 zero_73 Tryd.underlying73 cells_74 bytes_74
attribute [go_sem] info_74 agg_74 zero_74 Tryd.underlying74 cells_75 bytes_75 info_75 agg_75 zero_75 Tryd.underlying75 cells_76 bytes_76
attribute [go_sem] info_76 agg_76 zero_76 Tryd.underlying76 cells_77 bytes_77 info_77 agg_77 zero_77 Tryd.underlying77 cells_78 bytes_78
attribute [go_sem] info_78 agg_78 zero_78 Tryd.underlying78 cells_79 bytes_79 info_79 agg_79 zero_79 Tryd.underlying79 cells_80 bytes_80
attribute [go_sem] info_80 agg_80 zero_80 Tryd.underlying80 cells_81 bytes_81 info_81 agg_81 zero_81 Tryd.underlying81 cells_82 bytes_82
attribute [go_sem] info_82 agg_82 zero_82 Tryd.underlying82 cells_83 bytes_83 info_83 agg_83 zero_83 Tryd.underlying83 cells_84 bytes_84
attribute [go_sem] info_84 agg_84 zero_84 Tryd.underlying84 cells_85 bytes_85 info_85 agg_85 zero_85 Tryd.underlying85 cells_86 bytes_86
attribute [go_sem] info_86 agg_86 bok_86 Tryd.eqGuardType86 Tryd.stoodInHeld86 zero_86 Tryd.underlying86 cells_87 bytes_87 info_87 agg_87 bok_87
attribute [go_sem] Tryd.eqGuardType87 Tryd.stoodInHeld87 zero_87 Tryd.underlying87 cells_88 bytes_88 info_88 agg_88 zero_88 Tryd.underlying88 cells_89 bytes_89
attribute [go_sem] info_89 agg_89 bok_89 Tryd.eqGuardType89 Tryd.stoodInHeld89 zero_89 Tryd.underlying89 cells_90 bytes_90 info_90 agg_90 bok_90
attribute [go_sem] Tryd.eqGuardType90 Tryd.stoodInHeld90 zero_90 Tryd.underlying90 cells_91 bytes_91 info_91 agg_91 zero_91 Tryd.underlying91 cells_92 bytes_92
attribute [go_sem] info_92 agg_92 zero_92 Tryd.underlying92 cells_93 bytes_93 info_93 agg_93 zero_93 Tryd.underlying93 cells_94 bytes_94
attribute [go_sem] info_94 agg_94 zero_94 Tryd.underlying94 cells_95 bytes_95 info_95 agg_95 zero_95 Tryd.underlying95 cells_96 bytes_96
attribute [go_sem] info_96 agg_96 zero_96 Tryd.underlying96 cells_97 bytes_97 info_97 agg_97 zero_97 Tryd.underlying97 cells_98 bytes_98
attribute [go_sem] info_98 agg_98 bok_98 Tryd.eqGuardType98 zero_98 Tryd.underlying98 cells_99 bytes_99 info_99 agg_99 zero_99 Tryd.underlying99
attribute [go_sem] cells_100 bytes_100 info_100 agg_100 zero_100 Tryd.underlying100 cells_101 bytes_101 info_101 agg_101 zero_101 Tryd.underlying101
attribute [go_sem] cells_102 bytes_102 info_102 agg_102 zero_102 Tryd.underlying102 cells_103 bytes_103 info_103 agg_103 zero_103 Tryd.underlying103
attribute [go_sem] cells_104 bytes_104 info_104 agg_104 zero_104 Tryd.underlying104 cells_105 bytes_105 info_105 agg_105 zero_105 Tryd.underlying105
attribute [go_sem] cells_106 bytes_106 info_106 agg_106 zero_106 Tryd.underlying106 cells_107 bytes_107 info_107 agg_107 zero_107 Tryd.underlying107
attribute [go_sem] cells_108 bytes_108 info_108 agg_108 bok_108 Tryd.eqGuardType108 Tryd.underlying108 cells_109 bytes_109 info_109 agg_109 zero_109
attribute [go_sem] Tryd.underlying109 cells_110 bytes_110 info_110 agg_110 zero_110 Tryd.underlying110 cells_111 bytes_111 info_111 agg_111 zero_111
attribute [go_sem] Tryd.underlying111 cells_112 bytes_112 info_112 agg_112 zero_112 Tryd.underlying112 cells_113 bytes_113 info_113 agg_113 zero_113
attribute [go_sem] Tryd.underlying113 cells_114 bytes_114 info_114 agg_114 zero_114 Tryd.underlying114 cells_115 bytes_115 info_115 agg_115 zero_115
attribute [go_sem] Tryd.underlying115 cells_116 bytes_116 info_116 agg_116 zero_116 Tryd.underlying116 cells_117 bytes_117 info_117 agg_117 bok_117
attribute [go_sem] Tryd.eqGuardType117 Tryd.stoodInHeld117 zero_117 Tryd.underlying117 cells_118 bytes_118 info_118 agg_118 bok_118 Tryd.eqGuardType118 Tryd.stoodInHeld118 zero_118
attribute [go_sem] Tryd.underlying118 cells_119 bytes_119 info_119 agg_119 zero_119 Tryd.underlying119 cells_120 bytes_120 info_120 agg_120 bok_120
attribute [go_sem] Tryd.eqGuardType120 Tryd.stoodInHeld120 zero_120 Tryd.underlying120 cells_121 bytes_121 info_121 agg_121 bok_121 Tryd.eqGuardType121 Tryd.stoodInHeld121 zero_121
attribute [go_sem] Tryd.underlying121 cells_122 bytes_122 info_122 agg_122 zero_122 Tryd.underlying122 cells_123 bytes_123 info_123 agg_123 bok_123
attribute [go_sem] Tryd.eqGuardType123 Tryd.stoodInHeld123 zero_123 Tryd.underlying123 cells_124 bytes_124 info_124 agg_124 bok_124 Tryd.eqGuardType124 Tryd.stoodInHeld124 zero_124
attribute [go_sem] Tryd.underlying124 cells_125 bytes_125 info_125 agg_125 zero_125 Tryd.underlying125 cells_126 bytes_126 info_126 agg_126 zero_126
attribute [go_sem] Tryd.underlying126 cells_127 bytes_127 info_127 agg_127 zero_127 Tryd.underlying127 cells_128 bytes_128 info_128 agg_128 zero_128
attribute [go_sem] Tryd.underlying128 cells_129 bytes_129 info_129 agg_129 zero_129 Tryd.underlying129 cells_130 bytes_130 info_130 agg_130 zero_130
attribute [go_sem] Tryd.underlying130 cells_131 bytes_131 info_131 agg_131 zero_131 Tryd.underlying131 cells_132 bytes_132 info_132 agg_132 zero_132
attribute [go_sem] Tryd.underlying132 cells_133 bytes_133 info_133 agg_133 zero_133 Tryd.underlying133 cells_134 bytes_134 info_134 agg_134 zero_134
attribute [go_sem] Tryd.underlying134 cells_135 bytes_135 info_135 agg_135 zero_135 Tryd.underlying135 cells_136 bytes_136 info_136 agg_136 zero_136
attribute [go_sem] Tryd.underlying136 cells_137 bytes_137 info_137 agg_137 zero_137 Tryd.underlying137 cells_138 bytes_138 info_138 agg_138 zero_138
attribute [go_sem] Tryd.underlying138 cells_139 bytes_139 info_139 agg_139 bok_139 Tryd.eqGuardType139 zero_139 Tryd.underlying139 cells_140 bytes_140 info_140
attribute [go_sem] agg_140 zero_140 Tryd.underlying140 cells_141 bytes_141 info_141 agg_141 zero_141 Tryd.underlying141 cells_142 bytes_142 info_142
attribute [go_sem] agg_142 zero_142 Tryd.underlying142 cells_143 bytes_143 info_143 agg_143 zero_143 Tryd.underlying143 cells_144 bytes_144 info_144
attribute [go_sem] agg_144 zero_144 Tryd.underlying144 cells_145 bytes_145 info_145 agg_145 zero_145 Tryd.underlying145 cells_146 bytes_146 info_146
attribute [go_sem] agg_146 zero_146 Tryd.underlying146 cells_147 bytes_147 info_147 agg_147 zero_147 Tryd.underlying147 cells_148 bytes_148 info_148
attribute [go_sem] agg_148 zero_148 Tryd.underlying148 cells_149 bytes_149 info_149 agg_149 zero_149 Tryd.underlying149 cells_150 bytes_150 info_150
attribute [go_sem] agg_150 zero_150 Tryd.underlying150 cells_151 bytes_151 info_151 agg_151 zero_151 Tryd.underlying151 cells_152 bytes_152 info_152
attribute [go_sem] agg_152 zero_152 Tryd.underlying152 cells_153 bytes_153 info_153 agg_153 zero_153 Tryd.underlying153 cells_154 bytes_154 info_154
attribute [go_sem] agg_154 zero_154 Tryd.underlying154 cells_155 bytes_155 info_155 agg_155 zero_155 Tryd.underlying155 cells_156 bytes_156 info_156
attribute [go_sem] agg_156 bok_156 Tryd.eqGuardType156 zero_156 Tryd.underlying156 cells_157 bytes_157 info_157 agg_157 zero_157 Tryd.underlying157 cells_158
attribute [go_sem] bytes_158 info_158 agg_158 zero_158 Tryd.underlying158 cells_159 bytes_159 info_159 agg_159 zero_159 Tryd.underlying159 cells_160
attribute [go_sem] bytes_160 info_160 agg_160 zero_160 Tryd.underlying160 cells_161 bytes_161 info_161 agg_161 zero_161 Tryd.underlying161 cells_162
attribute [go_sem] bytes_162 info_162 agg_162 zero_162 Tryd.underlying162 cells_163 bytes_163 info_163 agg_163 zero_163 Tryd.underlying163 cells_164
attribute [go_sem] bytes_164 info_164 agg_164 zero_164 Tryd.underlying164 cells_165 bytes_165 info_165 agg_165 zero_165 Tryd.underlying165 cells_166
attribute [go_sem] bytes_166 info_166 agg_166 zero_166 Tryd.underlying166 cells_167 bytes_167 info_167 agg_167 zero_167 Tryd.underlying167 cells_168
attribute [go_sem] bytes_168 info_168 agg_168 bok_168 Tryd.eqGuardType168 Tryd.underlying168 cells_169 bytes_169 info_169 agg_169 zero_169 Tryd.underlying169
attribute [go_sem] cells_170 bytes_170 info_170 agg_170 zero_170 Tryd.underlying170 cells_171 bytes_171 info_171 agg_171 zero_171 Tryd.underlying171
attribute [go_sem] cells_172 bytes_172 info_172 agg_172 zero_172 Tryd.underlying172 cells_173 bytes_173 info_173 agg_173 zero_173 Tryd.underlying173
attribute [go_sem] cells_174 bytes_174 info_174 agg_174 bok_174 Tryd.eqGuardType174 zero_174 Tryd.underlying174 cells_175 bytes_175 info_175 agg_175
attribute [go_sem] zero_175 Tryd.underlying175 cells_176 bytes_176 info_176 agg_176 bok_176 Tryd.eqGuardType176 zero_176 Tryd.underlying176 cells_177 bytes_177
attribute [go_sem] info_177 agg_177 zero_177 Tryd.underlying177 cells_178 bytes_178 info_178 agg_178 zero_178 Tryd.underlying178 cells_179 bytes_179
attribute [go_sem] info_179 agg_179 zero_179 Tryd.underlying179 cells_180 bytes_180 info_180 agg_180 zero_180 Tryd.underlying180 cells_181 bytes_181
attribute [go_sem] info_181 agg_181 bok_181 Tryd.eqGuardType181 Tryd.stoodInHeld181 zero_181 Tryd.underlying181 cells_182 bytes_182 info_182 agg_182 bok_182
attribute [go_sem] Tryd.eqGuardType182 Tryd.stoodInHeld182 zero_182 Tryd.underlying182 cells_183 bytes_183 info_183 agg_183 zero_183 Tryd.underlying183 cells_184 bytes_184
attribute [go_sem] info_184 agg_184 zero_184 Tryd.underlying184 cells_185 bytes_185 info_185 agg_185 bok_185 Tryd.eqGuardType185 Tryd.stoodInHeld185 zero_185
attribute [go_sem] Tryd.underlying185 cells_186 bytes_186 info_186 agg_186 bok_186 Tryd.eqGuardType186 Tryd.stoodInHeld186 zero_186 Tryd.underlying186 cells_187 bytes_187
attribute [go_sem] info_187 agg_187 zero_187 Tryd.underlying187 cells_188 bytes_188 info_188 agg_188 zero_188 Tryd.underlying188 cells_189 bytes_189
attribute [go_sem] info_189 agg_189 zero_189 Tryd.underlying189 cells_190 bytes_190 info_190 agg_190 zero_190 Tryd.underlying190 cells_191 bytes_191
attribute [go_sem] info_191 agg_191 zero_191 Tryd.underlying191 cells_192 bytes_192 info_192 agg_192 zero_192 Tryd.underlying192 cells_193 bytes_193
attribute [go_sem] info_193 agg_193 zero_193 Tryd.underlying193 cells_194 bytes_194 info_194 agg_194 zero_194 Tryd.underlying194 cells_195 bytes_195
attribute [go_sem] info_195 agg_195 zero_195 Tryd.underlying195 cells_196 bytes_196 info_196 agg_196 bok_196 Tryd.eqGuardType196 Tryd.stoodInHeld196 zero_196
attribute [go_sem] Tryd.underlying196 cells_197 bytes_197 info_197 agg_197 bok_197 Tryd.eqGuardType197 Tryd.stoodInHeld197 zero_197 Tryd.underlying197 cells_198 bytes_198
attribute [go_sem] info_198 agg_198 zero_198 Tryd.underlying198 cells_199 bytes_199 info_199 agg_199 zero_199 Tryd.underlying199 cells_200 bytes_200
attribute [go_sem] info_200 agg_200 bok_200 Tryd.eqGuardType200 Tryd.stoodInHeld200 zero_200 Tryd.underlying200 cells_201 bytes_201 info_201 agg_201 bok_201
attribute [go_sem] Tryd.eqGuardType201 Tryd.stoodInHeld201 zero_201 Tryd.underlying201 cells_202 bytes_202 info_202 agg_202 zero_202 Tryd.underlying202 cells_203 bytes_203
attribute [go_sem] info_203 agg_203 bok_203 Tryd.eqGuardType203 Tryd.stoodInHeld203 zero_203 Tryd.underlying203 cells_204 bytes_204 info_204 agg_204 bok_204
attribute [go_sem] Tryd.eqGuardType204 Tryd.stoodInHeld204 zero_204 Tryd.underlying204 cells_205 bytes_205 info_205 agg_205 zero_205 Tryd.underlying205 cells_206 bytes_206
attribute [go_sem] info_206 agg_206 bok_206 Tryd.eqGuardType206 Tryd.stoodInHeld206 zero_206 Tryd.underlying206 cells_207 bytes_207 info_207 agg_207 bok_207
attribute [go_sem] Tryd.eqGuardType207 Tryd.stoodInHeld207 zero_207 Tryd.underlying207 cells_208 bytes_208 info_208 agg_208 zero_208 Tryd.underlying208 cells_209 bytes_209
attribute [go_sem] info_209 agg_209 bok_209 Tryd.eqGuardType209 zero_209 Tryd.underlying209 cells_210 bytes_210 info_210 agg_210 bok_210 Tryd.eqGuardType210
attribute [go_sem] zero_210 Tryd.underlying210 cells_211 bytes_211 info_211 agg_211 zero_211 Tryd.underlying211 cells_212 bytes_212 info_212 agg_212
attribute [go_sem] zero_212 Tryd.underlying212 cells_213 bytes_213 info_213 agg_213 bok_213 Tryd.eqGuardType213 Tryd.stoodInHeld213 zero_213 Tryd.underlying213 cells_214
attribute [go_sem] bytes_214 info_214 agg_214 bok_214 Tryd.eqGuardType214 Tryd.stoodInHeld214 zero_214 Tryd.underlying214 cells_215 bytes_215 info_215 agg_215
attribute [go_sem] bok_215 Tryd.eqGuardType215 zero_215 Tryd.underlying215 cells_216 bytes_216 info_216 agg_216 bok_216 Tryd.eqGuardType216 Tryd.stoodInHeld216 zero_216
attribute [go_sem] Tryd.underlying216 cells_217 bytes_217 info_217 agg_217 bok_217 Tryd.eqGuardType217 Tryd.stoodInHeld217 zero_217 Tryd.underlying217 cells_218 bytes_218
attribute [go_sem] info_218 agg_218 bok_218 Tryd.eqGuardType218 zero_218 Tryd.underlying218 cells_219 bytes_219 info_219 agg_219 bok_219 Tryd.eqGuardType219
attribute [go_sem] Tryd.stoodInHeld219 zero_219 Tryd.underlying219 cells_220 bytes_220 info_220 agg_220 bok_220 Tryd.eqGuardType220 Tryd.stoodInHeld220 zero_220 Tryd.underlying220
attribute [go_sem] cells_221 bytes_221 info_221 agg_221 zero_221 Tryd.underlying221 cells_222 bytes_222 info_222 agg_222 zero_222 Tryd.underlying222
attribute [go_sem] cells_223 bytes_223 info_223 agg_223 zero_223 Tryd.underlying223 cells_224 bytes_224 info_224 agg_224 zero_224 Tryd.underlying224
attribute [go_sem] cells_225 bytes_225 info_225 agg_225 zero_225 Tryd.underlying225 cells_226 bytes_226 info_226 agg_226 zero_226 Tryd.underlying226
attribute [go_sem] cells_227 bytes_227 info_227 agg_227 bok_227 Tryd.eqGuardType227 Tryd.stoodInHeld227 zero_227 Tryd.underlying227 cells_228 bytes_228 info_228
attribute [go_sem] agg_228 bok_228 Tryd.eqGuardType228 Tryd.stoodInHeld228 zero_228 Tryd.underlying228 Tryd.results0 Tryd.results1 Tryd.results2 Tryd.results3 Tryd.results4 Tryd.results5
attribute [go_sem] Tryd.results6 Tryd.results7 Tryd.results8 Tryd.results9 Tryd.results10 Tryd.results11 Tryd.results12 Tryd.results13 Tryd.results14 Tryd.results15 Tryd.results16 Tryd.results17
attribute [go_sem] Tryd.results18 Tryd.results19 Tryd.results20 Tryd.results21 Tryd.results22 Tryd.results23 Tryd.results24 Tryd.results25 Tryd.results26 Tryd.results27 Tryd.results28 Tryd.results29
attribute [go_sem] Tryd.results30 Tryd.results31 Tryd.results32 Tryd.results33 Tryd.results34 Tryd.results35 Tryd.results36 Tryd.results37 Tryd.results38 Tryd.results39 Tryd.results40 Tryd.results41
attribute [go_sem] Tryd.results42 Tryd.results43 Tryd.results44 Tryd.results45 Tryd.results46 Tryd.results47 Tryd.results48 Tryd.results49 Tryd.results50 Tryd.results51 Tryd.results52 Tryd.results53
attribute [go_sem] Tryd.results54 Tryd.results55 Tryd.results56 Tryd.results57 Tryd.results58 Tryd.results59 Tryd.results60 Tryd.results61 Tryd.results62 Tryd.results63 Tryd.results64 Tryd.results65
attribute [go_sem] Tryd.results66 Tryd.results67 Tryd.results68 Tryd.results69 Tryd.results70 Tryd.results71 Tryd.results72 Tryd.results73 Tryd.results74 Tryd.results75 Tryd.results76 Tryd.results77
attribute [go_sem] Tryd.results78 Tryd.results79 Tryd.results80 Tryd.results81 Tryd.results82 Tryd.results83 Tryd.results84 Tryd.results85 Tryd.results86 Tryd.results87 Tryd.results88 Tryd.results89
attribute [go_sem] Tryd.results90 Tryd.results91 Tryd.results92 Tryd.results93 Tryd.results94 Tryd.results95 Tryd.results96 Tryd.results97 Tryd.results98 Tryd.results99 Tryd.results100 Tryd.results101
attribute [go_sem] Tryd.results102 Tryd.results103 Tryd.results104 Tryd.results105 Tryd.results106 Tryd.results107 Tryd.results108 Tryd.results109 Tryd.results110 Tryd.results111 Tryd.results112 Tryd.results113
attribute [go_sem] Tryd.results114 Tryd.results115 Tryd.results116 Tryd.results117 Tryd.results118 Tryd.results119 Tryd.results120 Tryd.results121 Tryd.results122 Tryd.results123 Tryd.results124 Tryd.results125
attribute [go_sem] Tryd.results126 Tryd.results127 Tryd.results128 Tryd.results129 Tryd.results130 Tryd.results131 Tryd.results132 Tryd.results133 Tryd.results134 Tryd.results135 Tryd.results136 Tryd.results137
attribute [go_sem] Tryd.results138 Tryd.results139 Tryd.results140 Tryd.results141 Tryd.results142 Tryd.results143 Tryd.results144 Tryd.results145 Tryd.results146 Tryd.results147 Tryd.results148 Tryd.results149
attribute [go_sem] Tryd.results150 Tryd.results151 Tryd.results152 Tryd.results153 Tryd.results154 Tryd.results155 Tryd.results156 Tryd.results157 Tryd.results158 Tryd.results159 Tryd.results160 Tryd.results161
attribute [go_sem] Tryd.results162 Tryd.results163 Tryd.results164 Tryd.results165 Tryd.results166 Tryd.results167 Tryd.results168 Tryd.results169 Tryd.results170 Tryd.results171 Tryd.results172 Tryd.results173
attribute [go_sem] Tryd.results174 Tryd.results175 Tryd.results176 Tryd.results177
end Go.Dl

-- THE LIBRARY's FUNCTIONS AT THE DATA LEVEL: what the shelf says of the worlds, said of data.
namespace Go.Dl
open Go Go.Proofs
set_option maxRecDepth 10000

section
variable {P : Program} {G : Nat → DVal}

/-- What a call of the library's leaves: the old blocks as they were. -/
structure Quiet (w w' : World) : Prop where
  os : w'.os = w.os
  tape : w'.tape = w.tape
  output : w'.output = w.output
  size : w.heap.size ≤ w'.heap.size
  block : ∀ b, b < w.heap.size → w'.heap[b]? = w.heap[b]?

theorem Quiet.refl (w : World) : Quiet w w := ⟨rfl, rfl, rfl, Nat.le_refl _, fun _ _ => rfl⟩
theorem Quiet.below {w w' : World} (h : RowKit.Below w.heap.size w w') : Quiet w w' := ⟨h.os, h.tape, h.output, h.size, h.block⟩
theorem Quiet.bytes (w : World) (e : TypeId) (s : ByteArray) : Quiet w (Lib.bytesWorld w e s) :=
  ⟨by rfl, by rfl, by rfl, by rw [Lib.bytesWorld_size]; omega, fun b hb => Lib.bytesWorld_at_old w e s b hb⟩
theorem Quiet.drewN (w : World) (n : Nat) : Quiet w (w.drewN n) := ⟨rfl, rfl, rfl, Nat.le_refl _, fun _ _ => rfl⟩

theorem Quiet.ext {w w' : World} {H : DHeap} (hH : SimHeap w H) (h : Quiet w w') : SimHeap w' H ∧ Ext H w H w' := by
  have hE : Ext H w H w' := ⟨h.os, h.tape, h.output, h.size, fun b hb _ => h.block b hb, fun b hb => .inl hb, fun b hb => by rw [h.block b hb], fun a ha _ => by unfold World.frozen?; rw [h.block _ ha]⟩
  refine ⟨fun r o ho => ?_, hE⟩
  rw [h.block r (hH.lt (by simp [ho]))]
  exact (hH r o ho).lasts hE.lasts

/-- A function of the library that leaves the memory as it was. -/
theorem DCalls.quiet {f : FuncId} {args : List DVal} {H : DHeap} {R : DEnd → Prop} (hc : ∀ vs w, (callFunc f vs).run P w = .ok (.enter f vs) w)
    (h : ∀ vs w, RelL w H args vs → SimHeap w H → GOk G w H → Calls P f vs.toArray w fun e w' => Quiet w w' ∧ ∃ e', R e' ∧ RelE w' H e' e) :
    DCalls P G f args H fun e H' => R e ∧ H' = H := by
  refine ⟨hc, fun vs w hv hH hG => (h vs w hv hH hG).mono fun e w' ⟨hq, e', hR, hrel⟩ => ?_⟩
  obtain ⟨k1, k2⟩ := hq.ext hH
  exact ⟨e', H, ⟨hR, rfl⟩, hrel, k1, k2⟩

/-- A table of integers, as a variable. -/
theorem tab_cells {w : World} {H : DHeap} {g : Nat} {cs : List DVal} {name : String} {k : IntKind} {zs : List Int} (hg : P.globalNamed name = some g) (h : Rel w H (.vptr cs 0) (.pointer (some ⟨g, 0, none⟩)))
    (hcs : cs = zs.map fun z => .int k z) : ∀ i z, zs[i]? = some z → w.cell? ⟨g, i, none⟩ = some (.int k z) := by
  simp only [Rel] at h
  obtain ⟨b, o, xs, e, hc, hr⟩ := h
  simp only [Value.pointer.injEq, Option.some.injEq, Addr.mk.injEq, Nat.add_zero, and_true] at e
  obtain ⟨rfl, rfl⟩ := e
  intro i z hz
  have h1 : cs[i]? = some (.int k z) := by rw [hcs]; simp [hz]
  obtain ⟨y, hy, hrel⟩ := hr.get h1
  simp only [Rel] at hrel; subst hrel
  have := hc.holds i _ hy
  simpa using this
end

/-- What the package's variables hold. -/
structure GT (G : Nat → DVal) : Prop where
  maxLen : ∃ m, G 4 = .vptr [.int .i64 m] 0
  syn : ∃ t d, G 5 = .vptr [.iface t d] 0
  rng : ∃ t d, G 6 = .vptr [.iface t d] 0

section
variable {G : Nat → DVal} {H : DHeap}

theorem var_cell {w : World} {g : Nat} {d : DVal} (h : GOk G w H) (e : G g = .vptr [d] 0) : ∃ x, w.cell? ⟨g, 0, none⟩ = some x ∧ Rel w H d x := by
  have := h.rel g
  rw [e] at this
  simp only [Rel, RelL] at this
  obtain ⟨b, o, xs, e, hc, y, ys, rfl, h1, rfl⟩ := this
  simp only [Value.pointer.injEq, Option.some.injEq, Addr.mk.injEq, Nat.add_zero, and_true] at e
  obtain ⟨rfl, rfl⟩ := e
  have := hc.holds 0 y rfl
  exact ⟨y, by simpa using this, h1⟩

/-- What strconv.ParseInt returns. -/
def PI (s : List UInt8) (v : Int) (er : DVal) : Prop :=
  (∀ n, Lib.parseIntB 64 s = .ok n → v = n ∧ er = .nilIface) ∧ ((∀ n, Lib.parseIntB 64 s ≠ .ok n) → ∃ t x, er = .iface t (.raw x))

theorem parseInt_spec (hG : GT G) (s : List UInt8) (hs : s.length ≤ 281474976710656) :
    DCalls Tryd.prog G 60 [.str s, .int .i64 10, .int .i64 64] H fun e H' => (∃ v er, e = .ret (.tuple [.int .i64 v, er]) ∧ PI s v er) ∧ H' = H := by
  refine DCalls.quiet Tryd.call60 fun vs w hv hH hg => ?_
  simp only [RelL, Rel] at hv
  obtain ⟨_, _, rfl, rfl, _, _, rfl, rfl, _, _, rfl, rfl, rfl⟩ := hv
  obtain ⟨t5, d5, e5⟩ := hG.syn
  obtain ⟨t6, d6, e6⟩ := hG.rng
  obtain ⟨x5, c5, r5⟩ := var_cell hg e5
  obtain ⟨x6, c6, r6⟩ := var_cell hg e6
  simp only [Rel] at r5 r6
  obtain ⟨y5, rfl, _⟩ := r5
  obtain ⟨y6, rfl, _⟩ := r6
  have hsz : (ByteArray.mk ⟨s⟩).size = s.length := rfl
  cases hp : Lib.parseIntB 64 s with
  | ok n =>
    refine (Tryd.strconv_ParseInt_10_at64_ok ⟨⟨s⟩⟩ (by rw [hsz]; omega) n hp w).mono fun e w' ⟨he, hw⟩ => ?_
    subst he
    refine ⟨hw.elim (fun h => h ▸ .refl _) (fun ⟨t, h⟩ => h ▸ .bytes _ _ _), _, ⟨n, .nilIface, rfl, ?_, fun h => absurd hp (h n)⟩, .ret _ _ (by simp [Rel, RelL])⟩
    intro n' hn'; rw [hp] at hn'; cases hn'; exact ⟨rfl, rfl⟩
  | range =>
    refine (Tryd.strconv_ParseInt_10_at64_range ⟨⟨s⟩⟩ (by rw [hsz]; exact hs) hp _ w c6 (.inr ⟨_, _, rfl⟩)).mono fun e w' ⟨N, he, _, _, hw⟩ => ?_
    subst he
    refine ⟨.below hw, _, ⟨_, .iface _ (.raw (.pointer (some ⟨N, 0, none⟩))), rfl, fun n hn => (by rw [hp] at hn; cases hn), fun _ => ⟨_, _, rfl⟩⟩, .ret _ _ (by simp [Rel, RelL, Value.oneCell']; exact ⟨rfl, rfl⟩)⟩
  | _ =>
    refine (Tryd.strconv_ParseInt_10_at64_syntax ⟨⟨s⟩⟩ (by rw [hsz]; exact hs) ⟨fun v hv => (by rw [hp] at hv; cases hv), fun hv => (by rw [hp] at hv; cases hv)⟩ _ w c5 (.inr ⟨_, _, rfl⟩)).mono fun e w' ⟨N, he, _, _, hw⟩ => ?_
    subst he
    refine ⟨.below hw, _, ⟨_, .iface _ (.raw (.pointer (some ⟨N, 0, none⟩))), rfl, fun n hn => (by rw [hp] at hn; cases hn), fun _ => ⟨_, _, rfl⟩⟩, .ret _ _ (by simp [Rel, RelL, Value.oneCell']; exact ⟨rfl, rfl⟩)⟩

theorem cut_spec (hG : GT G) (s sep : List UInt8) (hs : s.length < 4294967281) :
    DCalls Tryd.prog G 58 [.str s, .str sep] H (DRet (.tuple [.str (Lib.cut s sep).1, .str (Lib.cut s sep).2.1, .bool (Lib.cut s sep).2.2]) H) := by
  refine DCalls.quiet Tryd.call58 fun vs w hv hH hg => ?_
  simp only [RelL, Rel] at hv
  obtain ⟨_, _, rfl, rfl, _, _, rfl, rfl, rfl⟩ := hv
  obtain ⟨m, e1⟩ := hG.maxLen
  obtain ⟨x, c, r⟩ := var_cell hg e1
  simp only [Rel] at r; subst r
  refine (Tryd.strings_Cut ⟨⟨s⟩⟩ ⟨⟨sep⟩⟩ m w hs c).mono fun e w' ⟨he, n, hw⟩ => ?_
  subst he; subst hw
  exact ⟨.drewN _ _, _, rfl, .ret _ _ (by simp [Rel, RelL])⟩

theorem trimSuffix_spec (s p : List UInt8) (hs : s.length ≤ 9223372036854775807) :
    DCalls Tryd.prog G 59 [.str s, .str p] H (DRet (.str (Lib.trimSuffix s p)) H) := by
  refine DCalls.quiet Tryd.call59 fun vs w hv hH hg => ?_
  simp only [RelL, Rel] at hv
  obtain ⟨_, _, rfl, rfl, _, _, rfl, rfl, rfl⟩ := hv
  refine (Tryd.strings_TrimSuffix ⟨⟨s⟩⟩ ⟨⟨p⟩⟩ w hs).mono fun e w' ⟨he, hw⟩ => ?_
  subst he; subst hw
  exact ⟨.refl _, _, rfl, .ret _ _ (by simp [Rel])⟩

theorem count_spec (s : List UInt8) (c : UInt8) :
    DCalls Tryd.prog G 112 [.str s, .str [c]] H (DRet (.int .i64 (Lib.countByte s c)) H) := by
  refine DCalls.quiet Tryd.call112 fun vs w hv hH hg => ?_
  simp only [RelL, Rel] at hv
  obtain ⟨_, _, rfl, rfl, _, _, rfl, rfl, rfl⟩ := hv
  refine (Tryd.strings_Count_one ⟨⟨s⟩⟩ c w).mono fun e w' ⟨he, hw⟩ => ?_
  subst he; subst hw
  exact ⟨.refl _, _, rfl, .ret _ _ (by simp [Rel])⟩
end
end Go.Dl

-- General plain laws: cells of lists of structs, positions, texts of integers, pieces.
namespace Go.Dl
open Go Go.Proofs
set_option maxRecDepth 10000

def I64 (n : Int) : Prop := -9223372036854775808 ≤ n ∧ n ≤ 9223372036854775807
section
variable {α : Type} {c : α → List DVal} {k : Nat}
theorem flat_len (hk : ∀ x, (c x).length = k) (l : List α) : (l.flatMap c).length = l.length * k := by
  induction l with
  | nil => simp
  | cons x l ih => simp [List.flatMap_cons, ih, hk, Nat.add_mul]; omega
theorem flat_drop (hk : ∀ x, (c x).length = k) : ∀ (l : List α) (i : Nat), (l.flatMap c).drop (i * k) = (l.drop i).flatMap c
  | l, 0 => by simp
  | [], i + 1 => by simp
  | x :: l, i + 1 => by
    rw [List.flatMap_cons, show (i + 1) * k = (c x).length + i * k by rw [hk, Nat.add_mul]; omega, List.drop_append, List.drop_succ_cons, ← flat_drop hk l i]
    simp
theorem flat_el (hk : ∀ x, (c x).length = k) (l : List α) (i : Nat) (h : i < l.length) : ((l.flatMap c).drop (i * k)).take k = c l[i] := by
  rw [flat_drop hk, List.drop_eq_getElem_cons h, List.flatMap_cons, List.take_append_of_le_length (by rw [hk]; omega), List.take_of_length_le (by rw [hk]; omega)]
theorem flat_get (hk : ∀ x, (c x).length = k) (l : List α) (i : Nat) (h : i < l.length) (j : Nat) (hj : j < k) : (l.flatMap c)[i * k + j]? = (c l[i])[j]? := by
  rw [← flat_el hk l i h, List.getElem?_take, if_pos hj, List.getElem?_drop]
end

/-- Where p holds first; -1: nowhere. -/
def idxF {α : Type} (p : α → Bool) (l : List α) : Int := match l.findIdx? p with | some i => (i : Int) | none => -1

theorem idxF_at {α : Type} {p : α → Bool} {l : List α} {i : Nat} (h : i < l.length) (hp : p l[i] = true) (hn : ∀ x ∈ l.take i, p x = false) : idxF p l = i := by
  have : l.findIdx? p = some i := by
    rw [List.findIdx?_eq_some_iff_getElem]
    exact ⟨h, hp, fun j hj => by have := hn l[j] (List.mem_take_iff_getElem.2 ⟨j, by omega, rfl⟩); simp [this]⟩
  rw [idxF, this]
theorem idxF_no {α : Type} {p : α → Bool} {l : List α} (hn : ∀ x ∈ l, p x = false) : idxF p l = -1 := by
  have : l.findIdx? p = none := by rw [List.findIdx?_eq_none_iff]; intro x hx; rw [hn x hx]
  rw [idxF, this]
theorem idxF_any {α : Type} (p : α → Bool) (l : List α) : decide (0 ≤ idxF p l) = l.any p := by
  unfold idxF
  cases h : l.findIdx? p with
  | some i =>
    obtain ⟨h1, h2, _⟩ := List.findIdx?_eq_some_iff_getElem.1 h
    have : l.any p = true := List.any_eq_true.2 ⟨_, List.getElem_mem h1, h2⟩
    rw [this]; simp
  | none =>
    rw [List.findIdx?_eq_none_iff] at h
    have : l.any p = false := by rw [List.any_eq_false]; intro x hx; rw [h x hx]; simp
    rw [this]; rfl
theorem take_next {α : Type} {p : α → Prop} {l : List α} {i : Nat} (h : i < l.length) (hn : ∀ x ∈ l.take i, p x) (hx : p l[i]) : ∀ x ∈ l.take (i + 1), p x := by
  intro x hm
  rw [List.take_succ_eq_append_getElem h, List.mem_append, List.mem_singleton] at hm
  rcases hm with hm | rfl
  · exact hn x hm
  · exact hx
theorem itoa_len {n : Int} (h : I64 n) : (Lib.itoa n).length ≤ 21 := by
  have h1 := h.1
  have h2 := h.2
  unfold Lib.itoa
  split
  · rw [List.length_cons, Lib.decDigits_length]
    have := Lib.nDigits_le20 n.natAbs (by omega)
    omega
  · rw [Lib.decDigits_length]
    have := Lib.nDigits_le20 n.toNat (by omega)
    omega
theorem decDigits_digits (u : Nat) : ∀ b ∈ Lib.decDigits u, 48 ≤ b.toNat ∧ b.toNat ≤ 57 := by
  induction u using Nat.strongRecOn with
  | ind u ih =>
    have one : ∀ d : Nat, d < 10 → 48 ≤ (UInt8.ofNat (48 + d)).toNat ∧ (UInt8.ofNat (48 + d)).toNat ≤ 57 := fun d hd => by
      rw [UInt8.toNat_ofNat']; omega
    intro b hb
    rw [Lib.decDigits] at hb
    split at hb
    · rename_i h
      rw [List.mem_singleton] at hb; subst hb; exact one u h
    · rename_i h
      rcases List.mem_append.1 hb with hb | hb
      · exact ih (u / 10) (by omega) b hb
      · rw [List.mem_singleton] at hb; subst hb; exact one _ (by omega)
theorem decDigits_ne (u : Nat) : Lib.decDigits u ≠ [] := by
  rw [Lib.decDigits]; split <;> simp

theorem parseUintM_append (M : Nat) : ∀ (l r : List UInt8) (acc v : Nat), Lib.parseUintM M acc l = .ok v → Lib.parseUintM M acc (l ++ r) = Lib.parseUintM M v r
  | [], r, acc, v, h => by simp only [Lib.parseUintM] at h; cases h; rfl
  | c :: l, r, acc, v, h => by
    simp only [Lib.parseUintM, List.cons_append] at h ⊢
    split at h
    · rename_i h1
      rw [if_pos h1]
      split at h
      · cases h
      · rename_i h2
        rw [if_neg h2]
        split at h
        · cases h
        · rename_i h3
          rw [if_neg h3]
          exact parseUintM_append M l r _ v h
    · cases h
theorem parse_digits (u : Nat) (hu : u < 18446744073709551616) : Lib.parseUintM 18446744073709551615 0 (Lib.decDigits u) = .ok u := by
  induction u using Nat.strongRecOn with
  | ind u ih =>
    have d : ∀ d : Nat, d < 10 → (UInt8.ofNat (48 + d)).toNat = 48 + d := fun d hd => by rw [UInt8.toNat_ofNat']; omega
    rw [Lib.decDigits]
    split
    · rename_i h
      simp only [Lib.parseUintM, d u h]
      rw [if_pos (by omega), if_neg (by omega), if_neg (by omega)]
      congr 1; omega
    · rename_i h
      rw [parseUintM_append _ _ _ _ _ (ih (u / 10) (by omega) (by omega))]
      simp only [Lib.parseUintM, d (u % 10) (by omega)]
      rw [if_pos (by omega), if_neg (by omega), if_neg (by omega)]
      congr 1; omega
theorem parse_itoa {n : Int} (h : I64 n) : Lib.parseIntB 64 (Lib.itoa n) = .ok n := by
  obtain ⟨h1, h2⟩ := h
  have hM : (2 ^ 64 - 1 : Nat) = 18446744073709551615 := by decide
  have hM2 : (2 ^ (64 - 1) : Nat) = 9223372036854775808 := by decide
  by_cases c : n < 0
  · obtain ⟨u, rfl⟩ : ∃ u : Nat, n = -(u : Int) := ⟨n.natAbs, by omega⟩
    rw [Lib.itoa_neg u (by omega), Lib.parseIntB_minus, Lib.parseUintB, if_neg (decDigits_ne u), hM, hM2, parse_digits u (by omega)]
    simp only [Lib.signedC]
    rw [if_neg (by omega)]
  · obtain ⟨u, rfl⟩ : ∃ u : Nat, n = (u : Int) := ⟨n.toNat, by omega⟩
    rw [Lib.itoa_nonneg]
    have hp := parse_digits u (by omega)
    cases hd : Lib.decDigits u with
    | nil => exact absurd hd (decDigits_ne u)
    | cons c r =>
      have hc := decDigits_digits u c (by rw [hd]; simp)
      rw [Lib.parseIntB_plain _ _ _ (by omega) (by omega), Lib.parseUintB, if_neg (by simp), hM, hM2, ← hd, hp]
      simp only [Lib.signlessC]
      rw [if_neg (by omega)]

/-- The number that strconv.ParseInt reads. -/
def pI (s : List UInt8) : Option Int := match Lib.parseIntB 64 s with | .ok n => some n | _ => none
theorem pI_itoa {n : Int} (h : I64 n) : pI (Lib.itoa n) = some n := by rw [pI, parse_itoa h]
theorem pI_i64 {s : List UInt8} {n : Int} (h : pI s = some n) : I64 n := by
  unfold pI at h
  split at h
  · rename_i e
    cases h
    have := Lib.parseIntB_bounds e
    simp at this
    exact ⟨by omega, by omega⟩
  · cases h
def wordOf (s : List UInt8) : List UInt8 := (Lib.cut s [32]).1
def restOf (s : List UInt8) : List UInt8 := (Lib.cut s [32]).2.1

theorem index_at (w r : List UInt8) (c : UInt8) (h : c ∉ w) : Lib.index (w ++ c :: r) [c] = w.length := by
  induction w with
  | nil => simp [Lib.index]
  | cons b w ih =>
    simp only [List.mem_cons, not_or] at h
    have hp : ([c].isPrefixOf (b :: (w ++ c :: r))) = false := by simp [List.isPrefixOf, h.1]
    simp only [List.cons_append, Lib.index, hp, ih h.2]
    simp
theorem index_no (w : List UInt8) (c : UInt8) (h : c ∉ w) : Lib.index w [c] = -1 := by
  induction w with
  | nil => rfl
  | cons b w ih =>
    simp only [List.mem_cons, not_or] at h
    have hp : ([c].isPrefixOf (b :: w)) = false := by simp [List.isPrefixOf, h.1]
    simp [Lib.index, hp, ih h.2]
theorem cut_at (w r : List UInt8) (c : UInt8) (h : c ∉ w) : Lib.cut (w ++ c :: r) [c] = (w, r, true) := by
  rw [Lib.cut, index_at w r c h, if_pos (by omega)]
  simp
theorem cut_no (w : List UInt8) (c : UInt8) (h : c ∉ w) : Lib.cut w [c] = (w, [], false) := by
  rw [Lib.cut, index_no w c h, if_neg (by omega)]

theorem itoa_chars (n : Int) : ∀ b ∈ Lib.itoa n, 45 ≤ b.toNat ∧ b.toNat ≤ 57 := by
  intro b hb
  unfold Lib.itoa at hb
  split at hb
  · rcases List.mem_cons.1 hb with rfl | hb
    · decide
    · have := decDigits_digits _ b hb; omega
  · have := decDigits_digits _ b hb; omega
theorem itoa_no (n : Int) (c : UInt8) (h : c.toNat < 45) : c ∉ Lib.itoa n := fun hc => by have := itoa_chars n c hc; omega
theorem trim_lf (s : List UInt8) : Lib.trimSuffix (s ++ [10]) [10] = s := by
  have h : Lib.hasSuffix (s ++ [10]) [10] = true := by
    unfold Lib.hasSuffix
    rw [List.isSuffixOf_iff_suffix]
    exact ⟨s, rfl⟩
  rw [Lib.trimSuffix, if_pos h]; simp
def splitL : List UInt8 → List UInt8 → List (List UInt8)
  | [], cur => [cur]
  | c :: r, cur => if c = 32 then cur :: splitL r [] else splitL r (cur ++ [c])
def fieldsL (s : List UInt8) : List (List UInt8) := splitL s []
theorem splitL_no (w : List UInt8) (h : (32 : UInt8) ∉ w) : ∀ cur, splitL w cur = [cur ++ w] := by
  induction w with
  | nil => intro cur; simp [splitL]
  | cons c w ih =>
    intro cur
    simp only [List.mem_cons, not_or] at h
    rw [splitL, if_neg (fun e => h.1 e.symm), ih h.2]; simp
theorem splitL_at (w r : List UInt8) (h : (32 : UInt8) ∉ w) : ∀ cur, splitL (w ++ 32 :: r) cur = (cur ++ w) :: splitL r [] := by
  induction w with
  | nil => intro cur; simp [splitL]
  | cons c w ih =>
    intro cur
    simp only [List.mem_cons, not_or] at h
    rw [List.cons_append, splitL, if_neg (fun e => h.1 e.symm), ih h.2]; simp
theorem splitL_len : ∀ (s cur : List UInt8), (splitL s cur).length ≤ s.length + 1
  | [], cur => by simp [splitL]
  | c :: r, cur => by
    rw [splitL]; split
    · have := splitL_len r []; simp; omega
    · have := splitL_len r (cur ++ [c]); simp; omega
theorem splitL_el : ∀ (s cur : List UInt8), ∀ w ∈ splitL s cur, w.length ≤ s.length + cur.length
  | [], cur => by simp [splitL]
  | c :: r, cur => by
    rw [splitL]; split
    · intro w hw
      rcases List.mem_cons.1 hw with rfl | hw
      · simp
      · have := splitL_el r [] w hw; simp at this ⊢; omega
    · intro w hw
      have := splitL_el r (cur ++ [c]) w hw; simp at this ⊢; omega

theorem toNat_ne {c d : UInt8} (h : c ≠ d) : ¬ (c.toNat : Int) = (d.toNat : Int) := fun e => h (UInt8.toNat_inj.1 (by omega))
/-- A slice of strings. -/
def dStrs (l : List (List UInt8)) : DVal := .vslice (l.map .str) l.length
end Go.Dl
