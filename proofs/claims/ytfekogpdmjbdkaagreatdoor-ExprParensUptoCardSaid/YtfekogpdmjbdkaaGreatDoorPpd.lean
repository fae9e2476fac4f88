/- The data level and the contracts of the functions that are reached (part 4). -/
import Derived.Test.YtfekogpdmjbdkaaGreatDoorProg
import Derived.KernelRfl
import Derived.Lib.ItoaMem
import Derived.Lib.ConvBytes
import Derived.Lib.LaidTab
import Derived.Lib.ItoaLen
import Derived.Lib.ParseIntBTie
import Derived.Lib.IndexMore
import Derived.Lib.IndexAny
import Derived.Lib.TrimByte
import Derived.Lib.Strings
import Derived.Lib.Repeat
import Derived.Lib.CountLaws
import Derived.Lib.ParseIntB
import Derived.Lib.Fields
import Derived.Laws.RangeString
import Derived.Laws.RangeAny
import Derived.Test.YtfekogpdmjbdkaaGreatDoorPpc
set_option linter.unusedSimpArgs false
set_option linter.unusedVariables false
set_option linter.unusedSectionVars false
-- Facts on the types of this seat, each by the kernel. MADE BY PROGRAM (facts.py).
namespace Go.Dl
open Go Go.Proofs
theorem cells_2 : Tryz.prog.cellsOf 2 = 1 := by kernel_rfl
theorem info_2 : (Tryz.prog.info? 2).isSome = true := by kernel_rfl
theorem agg_2 : aggB Tryz.prog 2 = some false := by kernel_rfl
theorem cells_3 : Tryz.prog.cellsOf 3 = 1 := by kernel_rfl
theorem info_3 : (Tryz.prog.info? 3).isSome = true := by kernel_rfl
theorem agg_3 : aggB Tryz.prog 3 = some false := by kernel_rfl
theorem zero_3 : zeroOf Tryz.prog 3 = some (.int .i64 0) := by kernel_rfl
theorem cells_9 : Tryz.prog.cellsOf 9 = 1 := by kernel_rfl
theorem info_9 : (Tryz.prog.info? 9).isSome = true := by kernel_rfl
theorem agg_9 : aggB Tryz.prog 9 = some false := by kernel_rfl
theorem zero_9 : zeroOf Tryz.prog 9 = some (.str []) := by kernel_rfl
theorem cells_22 : Tryz.prog.cellsOf 22 = 1 := by kernel_rfl
theorem info_22 : (Tryz.prog.info? 22).isSome = true := by kernel_rfl
theorem agg_22 : aggB Tryz.prog 22 = some false := by kernel_rfl
theorem cells_23 : Tryz.prog.cellsOf 23 = 1 := by kernel_rfl
theorem info_23 : (Tryz.prog.info? 23).isSome = true := by kernel_rfl
theorem agg_23 : aggB Tryz.prog 23 = some false := by kernel_rfl
theorem cells_24 : Tryz.prog.cellsOf 24 = 1 := by kernel_rfl
theorem info_24 : (Tryz.prog.info? 24).isSome = true := by kernel_rfl
theorem agg_24 : aggB Tryz.prog 24 = some false := by kernel_rfl
theorem cells_25 : Tryz.prog.cellsOf 25 = 1 := by kernel_rfl
theorem info_25 : (Tryz.prog.info? 25).isSome = true := by kernel_rfl
theorem agg_25 : aggB Tryz.prog 25 = some false := by kernel_rfl
theorem cells_27 : Tryz.prog.cellsOf 27 = 9 := by kernel_rfl
theorem bytes_27 : Tryz.prog.bytesOf 27 = 104 := by kernel_rfl
theorem info_27 : (Tryz.prog.info? 27).isSome = true := by kernel_rfl
theorem agg_27 : aggB Tryz.prog 27 = some true := by kernel_rfl
theorem bok_27 : buildOk Tryz.prog 27 = true := by kernel_rfl
theorem zero_27 : zeroOf Tryz.prog 27 = some (.agg [.int .u8 0, .int .u8 0, .int .i64 0, .str [], .nilSlice, .nilSlice, .int .i64 0, .int .i64 0, .int .i64 0]) := by kernel_rfl
theorem cells_28 : Tryz.prog.cellsOf 28 = 1 := by kernel_rfl
theorem info_28 : (Tryz.prog.info? 28).isSome = true := by kernel_rfl
theorem agg_28 : aggB Tryz.prog 28 = some false := by kernel_rfl
theorem zero_28 : zeroOf Tryz.prog 28 = some (.nilSlice) := by kernel_rfl
theorem cells_29 : Tryz.prog.cellsOf 29 = 1 := by kernel_rfl
theorem info_29 : (Tryz.prog.info? 29).isSome = true := by kernel_rfl
theorem agg_29 : aggB Tryz.prog 29 = some false := by kernel_rfl
theorem zero_29 : zeroOf Tryz.prog 29 = some (.int .i64 0) := by kernel_rfl
theorem cells_40 : Tryz.prog.cellsOf 40 = 1 := by kernel_rfl
theorem info_40 : (Tryz.prog.info? 40).isSome = true := by kernel_rfl
theorem agg_40 : aggB Tryz.prog 40 = some false := by kernel_rfl
theorem cells_47 : Tryz.prog.cellsOf 47 = 10 := by kernel_rfl
theorem bytes_47 : Tryz.prog.bytesOf 47 = 128 := by kernel_rfl
theorem info_47 : (Tryz.prog.info? 47).isSome = true := by kernel_rfl
theorem agg_47 : aggB Tryz.prog 47 = some true := by kernel_rfl
theorem bok_47 : buildOk Tryz.prog 47 = true := by kernel_rfl
theorem zero_47 : zeroOf Tryz.prog 47 = some (.agg [.nilSlice, .int .u8 0, .int .u8 0, .int .i64 0, .str [], .nilSlice, .nilSlice, .int .i64 0, .int .i64 0, .int .i64 0]) := by kernel_rfl
theorem cells_50 : Tryz.prog.cellsOf 50 = 1 := by kernel_rfl
theorem info_50 : (Tryz.prog.info? 50).isSome = true := by kernel_rfl
theorem agg_50 : aggB Tryz.prog 50 = some false := by kernel_rfl
theorem cells_52 : Tryz.prog.cellsOf 52 = 4 := by kernel_rfl
theorem bytes_52 : Tryz.prog.bytesOf 52 = 40 := by kernel_rfl
theorem info_52 : (Tryz.prog.info? 52).isSome = true := by kernel_rfl
theorem agg_52 : aggB Tryz.prog 52 = some true := by kernel_rfl
theorem bok_52 : buildOk Tryz.prog 52 = true := by kernel_rfl
theorem zero_52 : zeroOf Tryz.prog 52 = some (.agg [.int .u8 0, .int .i64 0, .str [], .int .i64 0]) := by kernel_rfl
theorem cells_58 : Tryz.prog.cellsOf 58 = 1 := by kernel_rfl
theorem info_58 : (Tryz.prog.info? 58).isSome = true := by kernel_rfl
theorem agg_58 : aggB Tryz.prog 58 = some false := by kernel_rfl
theorem zero_58 : zeroOf Tryz.prog 58 = some (.nilSlice) := by kernel_rfl
theorem cells_69 : Tryz.prog.cellsOf 69 = 1 := by kernel_rfl
theorem info_69 : (Tryz.prog.info? 69).isSome = true := by kernel_rfl
theorem agg_69 : aggB Tryz.prog 69 = some false := by kernel_rfl
theorem zero_69 : zeroOf Tryz.prog 69 = some (.int .u8 0) := by kernel_rfl
theorem cells_71 : Tryz.prog.cellsOf 71 = 2 := by kernel_rfl
theorem bytes_71 : Tryz.prog.bytesOf 71 = 32 := by kernel_rfl
theorem info_71 : (Tryz.prog.info? 71).isSome = true := by kernel_rfl
theorem agg_71 : aggB Tryz.prog 71 = some true := by kernel_rfl
theorem bok_71 : buildOk Tryz.prog 71 = true := by kernel_rfl
theorem zero_71 : zeroOf Tryz.prog 71 = some (.agg [.int .u8 0, .nilSlice]) := by kernel_rfl
theorem bok_83 : buildOk Tryz.prog 83 = true := by kernel_rfl
theorem zero_83 : zeroOf Tryz.prog 83 = some (.agg [.nilSlice]) := by kernel_rfl
theorem cells_86 : Tryz.prog.cellsOf 86 = 1 := by kernel_rfl
theorem info_86 : (Tryz.prog.info? 86).isSome = true := by kernel_rfl
theorem agg_86 : aggB Tryz.prog 86 = some false := by kernel_rfl
theorem zero_86 : zeroOf Tryz.prog 86 = some (.nilFunc) := by kernel_rfl
theorem cells_90 : Tryz.prog.cellsOf 90 = 1 := by kernel_rfl
theorem info_90 : (Tryz.prog.info? 90).isSome = true := by kernel_rfl
theorem agg_90 : aggB Tryz.prog 90 = some false := by kernel_rfl
theorem zero_90 : zeroOf Tryz.prog 90 = some (.nilFunc) := by kernel_rfl
theorem bok_139 : buildOk Tryz.prog 139 = true := by kernel_rfl
theorem zero_139 : zeroOf Tryz.prog 139 = some (.agg [.nilSlice, .int .i64 0]) := by kernel_rfl
theorem cells_142 : Tryz.prog.cellsOf 142 = 1 := by kernel_rfl
theorem info_142 : (Tryz.prog.info? 142).isSome = true := by kernel_rfl
theorem bok_142 : buildOk Tryz.prog 142 = true := by kernel_rfl
theorem zero_142 : zeroOf Tryz.prog 142 = some (.agg [.int .i64 0]) := by kernel_rfl
theorem cells_144 : Tryz.prog.cellsOf 144 = 1 := by kernel_rfl
theorem info_144 : (Tryz.prog.info? 144).isSome = true := by kernel_rfl
theorem agg_144 : aggB Tryz.prog 144 = some false := by kernel_rfl
theorem zero_144 : zeroOf Tryz.prog 144 = some (.nilMap) := by kernel_rfl
attribute [go_sem] Tryz.underlying0 Tryz.underlying1
attribute [go_sem] cells_2 info_2 agg_2 Tryz.underlying2 cells_3 info_3 agg_3 zero_3 Tryz.underlying3
attribute [go_sem] Tryz.underlying4 Tryz.underlying5
attribute [go_sem] Tryz.underlying6 Tryz.eqGuardType7
attribute [go_sem] Tryz.stoodInHeld7 Tryz.underlying7 Tryz.eqGuardType8 Tryz.stoodInHeld8 Tryz.underlying8
attribute [go_sem] cells_9 info_9 agg_9 zero_9 Tryz.underlying9 Tryz.underlying10
attribute [go_sem] Tryz.underlying11 Tryz.underlying12
attribute [go_sem] Tryz.eqGuardType13 Tryz.stoodInHeld13 Tryz.underlying13
attribute [go_sem] Tryz.eqGuardType14 Tryz.stoodInHeld14 Tryz.underlying14 Tryz.underlying15
attribute [go_sem] Tryz.underlying16 Tryz.underlying17
attribute [go_sem] Tryz.eqGuardType18 Tryz.stoodInHeld18 Tryz.underlying18
attribute [go_sem] Tryz.eqGuardType19 Tryz.stoodInHeld19 Tryz.underlying19 Tryz.underlying20
attribute [go_sem] Tryz.underlying21 cells_22 info_22 agg_22 Tryz.underlying22
attribute [go_sem] cells_23 info_23 agg_23 Tryz.underlying23 cells_24 info_24 agg_24 Tryz.underlying24
attribute [go_sem] cells_25 info_25 agg_25 Tryz.underlying25 Tryz.eqGuardType26
attribute [go_sem] Tryz.stoodInHeld26 Tryz.underlying26 cells_27 bytes_27 info_27 agg_27 bok_27 Tryz.eqGuardType27 Tryz.stoodInHeld27 zero_27 Tryz.underlying27
attribute [go_sem] cells_28 info_28 agg_28 zero_28 Tryz.underlying28 cells_29 info_29 agg_29 zero_29 Tryz.underlying29
attribute [go_sem] Tryz.underlying30 Tryz.underlying31
attribute [go_sem] Tryz.underlying32 Tryz.underlying33
attribute [go_sem] Tryz.underlying34 Tryz.underlying35
attribute [go_sem] Tryz.underlying36 Tryz.underlying37
attribute [go_sem] Tryz.underlying38 Tryz.underlying39
attribute [go_sem] cells_40 info_40 agg_40 Tryz.underlying40 Tryz.eqGuardType41
attribute [go_sem] Tryz.stoodInHeld41 Tryz.underlying41 Tryz.eqGuardType42 Tryz.stoodInHeld42 Tryz.underlying42
attribute [go_sem] Tryz.underlying43 Tryz.underlying44
attribute [go_sem] Tryz.underlying45 Tryz.eqGuardType46
attribute [go_sem] Tryz.stoodInHeld46 Tryz.underlying46 cells_47 bytes_47 info_47 agg_47 bok_47 Tryz.eqGuardType47 Tryz.stoodInHeld47 zero_47 Tryz.underlying47
attribute [go_sem] Tryz.underlying48 Tryz.underlying49
attribute [go_sem] cells_50 info_50 agg_50 Tryz.underlying50 Tryz.eqGuardType51
attribute [go_sem] Tryz.stoodInHeld51 Tryz.underlying51 cells_52 bytes_52 info_52 agg_52 bok_52 Tryz.eqGuardType52 Tryz.stoodInHeld52 zero_52 Tryz.underlying52
attribute [go_sem] Tryz.underlying53 Tryz.underlying54
attribute [go_sem] Tryz.underlying55 Tryz.underlying56
attribute [go_sem] Tryz.underlying57 cells_58 info_58 agg_58 zero_58 Tryz.underlying58
attribute [go_sem] Tryz.underlying59 Tryz.underlying60
attribute [go_sem] Tryz.underlying61 Tryz.underlying62
attribute [go_sem] Tryz.underlying63 Tryz.underlying64
attribute [go_sem] Tryz.underlying65 Tryz.underlying66
attribute [go_sem] Tryz.underlying67 Tryz.underlying68
attribute [go_sem] cells_69 info_69 agg_69 zero_69 Tryz.underlying69 Tryz.eqGuardType70
attribute [go_sem] Tryz.stoodInHeld70 Tryz.underlying70 cells_71 bytes_71 info_71 agg_71 bok_71 Tryz.eqGuardType71 Tryz.stoodInHeld71 zero_71 Tryz.underlying71
attribute [go_sem] Tryz.underlying72 Tryz.underlying73
attribute [go_sem] Tryz.underlying74 Tryz.underlying75
attribute [go_sem] Tryz.underlying76 Tryz.underlying77
attribute [go_sem] Tryz.underlying78 Tryz.underlying79
attribute [go_sem] Tryz.underlying80 Tryz.underlying81
attribute [go_sem] Tryz.eqGuardType82 Tryz.stoodInHeld82 Tryz.underlying82
attribute [go_sem] bok_83 Tryz.eqGuardType83 Tryz.stoodInHeld83 zero_83 Tryz.underlying83 Tryz.underlying84
attribute [go_sem] Tryz.underlying85 cells_86 info_86 agg_86 zero_86 Tryz.underlying86
attribute [go_sem] Tryz.underlying87 Tryz.underlying88
attribute [go_sem] Tryz.underlying89 cells_90 info_90 agg_90 zero_90 Tryz.underlying90
attribute [go_sem] Tryz.underlying91 Tryz.underlying92
attribute [go_sem] Tryz.underlying93 Tryz.underlying94
attribute [go_sem] Tryz.underlying95 Tryz.underlying96
attribute [go_sem] Tryz.underlying97 Tryz.underlying98
attribute [go_sem] Tryz.underlying99 Tryz.underlying100
attribute [go_sem] Tryz.underlying101 Tryz.underlying102
attribute [go_sem] Tryz.underlying103 Tryz.underlying104
attribute [go_sem] Tryz.underlying105 Tryz.underlying106
attribute [go_sem] Tryz.underlying107 Tryz.underlying108
attribute [go_sem] Tryz.underlying109 Tryz.underlying110
attribute [go_sem] Tryz.underlying111 Tryz.underlying112
attribute [go_sem] Tryz.underlying113 Tryz.underlying114
attribute [go_sem] Tryz.underlying115 Tryz.underlying116
attribute [go_sem] Tryz.underlying117 Tryz.underlying118
attribute [go_sem] Tryz.eqGuardType119 Tryz.stoodInHeld119 Tryz.underlying119
attribute [go_sem] Tryz.eqGuardType120 Tryz.stoodInHeld120 Tryz.underlying120 Tryz.underlying121
attribute [go_sem] Tryz.underlying122 Tryz.underlying123
attribute [go_sem] Tryz.underlying124 Tryz.underlying125
attribute [go_sem] Tryz.underlying126 Tryz.underlying127
attribute [go_sem] Tryz.underlying128 Tryz.underlying129
attribute [go_sem] Tryz.underlying130 Tryz.underlying131
attribute [go_sem] Tryz.underlying132 Tryz.underlying133
attribute [go_sem] Tryz.underlying134 Tryz.underlying135
attribute [go_sem] Tryz.underlying136 Tryz.underlying137
attribute [go_sem] Tryz.eqGuardType138 Tryz.stoodInHeld138 Tryz.underlying138
attribute [go_sem] bok_139 Tryz.eqGuardType139 Tryz.stoodInHeld139 zero_139 Tryz.underlying139 Tryz.underlying140
attribute [go_sem] Tryz.eqGuardType141 Tryz.stoodInHeld141 Tryz.underlying141 cells_142 info_142
attribute [go_sem] bok_142 Tryz.eqGuardType142 Tryz.stoodInHeld142 zero_142 Tryz.underlying142 Tryz.underlying143
attribute [go_sem] cells_144 info_144 agg_144 zero_144 Tryz.underlying144 Tryz.underlying145
attribute [go_sem] Tryz.underlying146 Tryz.underlying147
attribute [go_sem] Tryz.underlying148 Tryz.underlying149
attribute [go_sem] Tryz.underlying150 Tryz.underlying151
attribute [go_sem] Tryz.underlying152 Tryz.underlying153
attribute [go_sem] Tryz.underlying154 Tryz.underlying155
attribute [go_sem] Tryz.underlying156 Tryz.underlying157
attribute [go_sem] Tryz.underlying158 Tryz.underlying159
attribute [go_sem] Tryz.underlying160 Tryz.underlying161
attribute [go_sem] Tryz.underlying162 Tryz.underlying163
attribute [go_sem] Tryz.underlying164 Tryz.underlying165
attribute [go_sem] Tryz.underlying166 Tryz.underlying167
attribute [go_sem] Tryz.underlying168 Tryz.underlying169
attribute [go_sem] Tryz.underlying170 Tryz.underlying171
attribute [go_sem] Tryz.underlying172 Tryz.underlying173
attribute [go_sem] Tryz.underlying174 Tryz.underlying175
attribute [go_sem] Tryz.underlying176 Tryz.underlying177
attribute [go_sem] Tryz.underlying178 Tryz.underlying179
attribute [go_sem] Tryz.underlying180 Tryz.underlying181
attribute [go_sem] Tryz.eqGuardType182 Tryz.underlying182
attribute [go_sem] Tryz.underlying183 Tryz.underlying184
attribute [go_sem] Tryz.underlying185 Tryz.eqGuardType186 Tryz.stoodInHeld186 Tryz.underlying186
attribute [go_sem] Tryz.eqGuardType187 Tryz.stoodInHeld187 Tryz.underlying187
attribute [go_sem] Tryz.underlying188 Tryz.underlying189
attribute [go_sem] Tryz.underlying190 Tryz.underlying191
attribute [go_sem] Tryz.underlying192 Tryz.eqGuardType193 Tryz.stoodInHeld193 Tryz.underlying193
attribute [go_sem] Tryz.eqGuardType194 Tryz.stoodInHeld194 Tryz.underlying194
attribute [go_sem] Tryz.underlying195 Tryz.eqGuardType196 Tryz.stoodInHeld196 Tryz.underlying196
attribute [go_sem] Tryz.eqGuardType197 Tryz.stoodInHeld197 Tryz.underlying197
attribute [go_sem] Tryz.underlying198 Tryz.eqGuardType199 Tryz.stoodInHeld199 Tryz.underlying199
attribute [go_sem] Tryz.eqGuardType200 Tryz.stoodInHeld200 Tryz.underlying200
attribute [go_sem] Tryz.underlying201 Tryz.underlying202
attribute [go_sem] Tryz.underlying203 Tryz.eqGuardType204 Tryz.stoodInHeld204 Tryz.underlying204
attribute [go_sem] Tryz.eqGuardType205 Tryz.stoodInHeld205 Tryz.underlying205
attribute [go_sem] Tryz.eqGuardType206 Tryz.underlying206 Tryz.eqGuardType207 Tryz.stoodInHeld207 Tryz.underlying207
attribute [go_sem] Tryz.eqGuardType208 Tryz.stoodInHeld208 Tryz.underlying208
attribute [go_sem] Tryz.underlying209 Tryz.underlying210
attribute [go_sem] Tryz.underlying211 Tryz.underlying212
attribute [go_sem] Tryz.underlying213 Tryz.underlying214
attribute [go_sem] Tryz.eqGuardType215 Tryz.stoodInHeld215 Tryz.underlying215 Tryz.eqGuardType216
attribute [go_sem] Tryz.stoodInHeld216 Tryz.underlying216 Tryz.underlying217 Tryz.results0 Tryz.results1 Tryz.results2
attribute [go_sem] Tryz.results3 Tryz.results4 Tryz.results5 Tryz.results6 Tryz.results7 Tryz.results8 Tryz.results9 Tryz.results10 Tryz.results11 Tryz.results12 Tryz.results13 Tryz.results14
attribute [go_sem] Tryz.results15 Tryz.results16 Tryz.results17 Tryz.results18 Tryz.results19 Tryz.results20 Tryz.results21 Tryz.results22 Tryz.results23 Tryz.results24 Tryz.results25 Tryz.results26
attribute [go_sem] Tryz.results27 Tryz.results28 Tryz.results29 Tryz.results30 Tryz.results31 Tryz.results32 Tryz.results33 Tryz.results34 Tryz.results35 Tryz.results36 Tryz.results37 Tryz.results38
attribute [go_sem] Tryz.results39 Tryz.results40 Tryz.results41 Tryz.results42 Tryz.results43 Tryz.results44 Tryz.results45 Tryz.results46 Tryz.results47 Tryz.results48 Tryz.results49 Tryz.results50
attribute [go_sem] Tryz.results51 Tryz.results52 Tryz.results53 Tryz.results54 Tryz.results55 Tryz.results56 Tryz.results57 Tryz.results58 Tryz.results59 Tryz.results60 Tryz.results61 Tryz.results62
attribute [go_sem] Tryz.results63 Tryz.results64 Tryz.results65 Tryz.results66 Tryz.results67 Tryz.results68 Tryz.results69 Tryz.results70 Tryz.results71 Tryz.results72 Tryz.results73 Tryz.results74
attribute [go_sem] Tryz.results75 Tryz.results76 Tryz.results77 Tryz.results78 Tryz.results79 Tryz.results80 Tryz.results81 Tryz.results82 Tryz.results83 Tryz.results84 Tryz.results85 Tryz.results86
attribute [go_sem] Tryz.results87 Tryz.results88 Tryz.results89 Tryz.results90 Tryz.results91 Tryz.results92 Tryz.results93 Tryz.results94 Tryz.results95 Tryz.results96 Tryz.results97 Tryz.results98
attribute [go_sem] Tryz.results99 Tryz.results100 Tryz.results101 Tryz.results102 Tryz.results103 Tryz.results104 Tryz.results105 Tryz.results106 Tryz.results107 Tryz.results108 Tryz.results109 Tryz.results110
attribute [go_sem] Tryz.results111 Tryz.results112 Tryz.results113 Tryz.results114 Tryz.results115 Tryz.results116 Tryz.results117 Tryz.results118 Tryz.results119 Tryz.results120 Tryz.results121 Tryz.results122
attribute [go_sem] Tryz.results123 Tryz.results124 Tryz.results125 Tryz.results126 Tryz.results127 Tryz.results128 Tryz.results129 Tryz.results130 Tryz.results131 Tryz.results132 Tryz.results133 Tryz.results134
attribute [go_sem] Tryz.results135 Tryz.results136 Tryz.results137 Tryz.results138 Tryz.results139 Tryz.results140 Tryz.results141 Tryz.results142 Tryz.results143 Tryz.results144 Tryz.results145 Tryz.results146
attribute [go_sem] Tryz.results147 Tryz.results148 Tryz.results149 Tryz.results150 Tryz.results151 Tryz.results152 Tryz.results153 Tryz.results154 Tryz.results155 Tryz.results156 Tryz.results157 Tryz.results158
attribute [go_sem] Tryz.results159 Tryz.results160 Tryz.results161 Tryz.results162 Tryz.results163 Tryz.results164 Tryz.results165 Tryz.results166 Tryz.results167 Tryz.results168 Tryz.results169 Tryz.results170
attribute [go_sem] Tryz.results171 Tryz.results172 Tryz.results173 Tryz.results174 Tryz.results175 Tryz.results176 Tryz.results177 Tryz.results178 Tryz.results179 Tryz.results180 Tryz.results181 Tryz.results182
attribute [go_sem] Tryz.results183 Tryz.results184 Tryz.results185 Tryz.results186 Tryz.results187 Tryz.results188 Tryz.results189 Tryz.results190 Tryz.results191 Tryz.results192 Tryz.results193 Tryz.results194
attribute [go_sem] Tryz.results195 Tryz.results196 Tryz.results197 Tryz.results198 Tryz.results199 Tryz.results200 Tryz.results201 Tryz.results202 Tryz.results203 Tryz.results204 Tryz.results205 Tryz.results206
attribute [go_sem] Tryz.results207 Tryz.results208 Tryz.results209 Tryz.results210 Tryz.results211 Tryz.results212 Tryz.results213 Tryz.results214 Tryz.results215 Tryz.results216 Tryz.results217 Tryz.results218
attribute [go_sem] Tryz.results219 Tryz.results220 Tryz.results221 Tryz.results222 Tryz.results223 Tryz.results224 Tryz.results225 Tryz.results226 Tryz.results227 Tryz.results228 Tryz.results229 Tryz.results230
end Go.Dl

-- THE LIBRARY's FUNCTIONS AT THE DATA LEVEL: what is common to all of them.
namespace Go.Dl
open Go Go.Proofs
set_option maxRecDepth 10000
section
variable {P : Program} {G : Nat → DVal}
structure Quiet (w w' : World) : Prop where
 os : w'.os = w.os
 tape : w'.tape = w.tape
 output : w'.output = w.output
 size : w.heap.size ≤ w'.heap.size
 block : ∀ b, b < w.heap.size → w'.heap[b]? = w.heap[b]?
theorem Quiet.below {w w' : World} (h : RowKit.Below w.heap.size w w') : Quiet w w' := ⟨h.os, h.tape, h.output, h.size, h.block⟩
theorem Quiet.ext {w w' : World} {H : DHeap} (hH : SimHeap w H) (h : Quiet w w') : SimHeap w' H ∧ Ext H w H w' := by
 have hE : Ext H w H w' := ⟨h.os, h.tape, h.output, h.size, fun b hb _ => h.block b hb, fun b hb => .inl hb, fun b hb => by rw [h.block b hb], fun a ha _ => by unfold World.frozen?; rw [h.block _ ha]⟩;refine ⟨fun r o ho => ?_, hE⟩;rw [h.block r (hH.lt (by simp [ho]))];exact (hH r o ho).lasts hE.lasts
theorem tab_cells {w : World} {H : DHeap} {g : Nat} {cs : List DVal} {name : String} {k : IntKind} {zs : List Int} (hg : P.globalNamed name = some g) (h : Rel w H (.vptr cs 0) (.pointer (some ⟨g, 0, none⟩)))
  (hcs : cs = zs.map fun z => .int k z) : ∀ i z, zs[i]? = some z → w.cell? ⟨g, i, none⟩ = some (.int k z) := by
 simp only [Rel] at h;obtain ⟨b, o, xs, e, hc, hr⟩ := h;simp only [Value.pointer.injEq, Option.some.injEq, Addr.mk.injEq, Nat.add_zero, and_true] at e;obtain ⟨rfl, rfl⟩ := e;intro i z hz;have h1 : cs[i]? = some (.int k z) := by rw [hcs]; simp [hz]
 obtain ⟨y, hy, hrel⟩ := hr.get h1;simp only [Rel] at hrel; subst hrel;have := hc.holds i _ hy;simpa using this
end
section
end
end Go.Dl

-- General plain laws: cells of lists of structs, positions, texts of integers, pieces.
namespace Go.Dl
open Go Go.Proofs
set_option maxRecDepth 10000
section
variable {α : Type} {c : α → List DVal} {k : Nat}
theorem flat_len (hk : ∀ x, (c x).length = k) (l : List α) : (l.flatMap c).length = l.length * k := by
 induction l with
 | nil => simp
 | cons x l ih => simp [List.flatMap_cons, ih, hk, Nat.add_mul]; omega
theorem flat_drop (hk : ∀ x, (c x).length = k) : ∀ (l : List α) (i : Nat), (l.flatMap c).drop (i * k) = (l.drop i).flatMap c
 | l, 0 => by simp
 | [], i + 1 => by simp
 | x :: l, i + 1 => by
  rw [List.flatMap_cons, show (i + 1) * k = (c x).length + i * k by rw [hk, Nat.add_mul]; omega, List.drop_append, List.drop_succ_cons, ← flat_drop hk l i];simp
theorem flat_el (hk : ∀ x, (c x).length = k) (l : List α) (i : Nat) (h : i < l.length) : ((l.flatMap c).drop (i * k)).take k = c l[i] := by
 rw [flat_drop hk, List.drop_eq_getElem_cons h, List.flatMap_cons, List.take_append_of_le_length (by rw [hk]; omega), List.take_of_length_le (by rw [hk]; omega)]
theorem flat_get (hk : ∀ x, (c x).length = k) (l : List α) (i : Nat) (h : i < l.length) (j : Nat) (hj : j < k) : (l.flatMap c)[i * k + j]? = (c l[i])[j]? := by
 rw [← flat_el hk l i h, List.getElem?_take, if_pos hj, List.getElem?_drop]
end
def idxF {α : Type} (p : α → Bool) (l : List α) : Int := match l.findIdx? p with | some i => (i : Int) | none => -1
theorem idxF_at {α : Type} {p : α → Bool} {l : List α} {i : Nat} (h : i < l.length) (hp : p l[i] = true) (hn : ∀ x ∈ l.take i, p x = false) : idxF p l = i := by
 have : l.findIdx? p = some i := by
  rw [List.findIdx?_eq_some_iff_getElem];exact ⟨h, hp, fun j hj => by have := hn l[j] (List.mem_take_iff_getElem.2 ⟨j, by omega, rfl⟩); simp [this]⟩
 rw [idxF, this]
theorem idxF_no {α : Type} {p : α → Bool} {l : List α} (hn : ∀ x ∈ l, p x = false) : idxF p l = -1 := by
 have : l.findIdx? p = none := by rw [List.findIdx?_eq_none_iff]; intro x hx; rw [hn x hx]
 rw [idxF, this]
theorem idxF_any {α : Type} (p : α → Bool) (l : List α) : decide (0 ≤ idxF p l) = l.any p := by
 unfold idxF;cases h : l.findIdx? p with
 | some i =>
  obtain ⟨h1, h2, _⟩ := List.findIdx?_eq_some_iff_getElem.1 h;have : l.any p = true := List.any_eq_true.2 ⟨_, List.getElem_mem h1, h2⟩;rw [this]; simp
 | none =>
  rw [List.findIdx?_eq_none_iff] at h;have : l.any p = false := by rw [List.any_eq_false]; intro x hx; rw [h x hx]; simp
  rw [this]; rfl
theorem take_next {α : Type} {p : α → Prop} {l : List α} {i : Nat} (h : i < l.length) (hn : ∀ x ∈ l.take i, p x) (hx : p l[i]) : ∀ x ∈ l.take (i + 1), p x := by
 intro x hm;rw [List.take_succ_eq_append_getElem h, List.mem_append, List.mem_singleton] at hm;rcases hm with hm | rfl
 ·exact hn x hm
 ·exact hx
theorem toNat_ne {c d : UInt8} (h : c ≠ d) : ¬ (c.toNat : Int) = (d.toNat : Int) := fun e => h (UInt8.toNat_inj.1 (by omega))
def dStrs (l : List (List UInt8)) : DVal := .vslice (l.map .str) l.length
end Go.Dl

-- Rows of the call's own: a list of lists of ints, each in a block of its own.
namespace Go.Dl
open Go
def loose : DVal → Bool
 | .bool _ | .int _ _ | .str _ | .nilPtr | .nilSlice | .nilMap | .nilFunc | .nilIface => true
 | .optr _ _ | .oslice _ _ _ _ _ | .omap _ => true
 | .tuple l => looses l
 | .agg l => looses l
 | _ => false
where looses : List DVal → Bool
 | [] => true
 | d :: ds => loose d && looses ds
mutual
theorem loose_rel {w : World} {H H' : DHeap} : ∀ (d : DVal) (v : Value), loose d = true → Rel w H d v → Rel w H' d v
 | .tuple l, v, hp, h => by
  simp only [loose] at hp
  simp only [Rel] at h ⊢
  obtain ⟨x, rfl, h1⟩ := h
  exact ⟨x, rfl, looses_rel _ _ hp h1⟩
 | .agg l, v, hp, h => by
  simp only [loose] at hp
  simp only [Rel] at h ⊢
  obtain ⟨x, rfl, h1⟩ := h
  exact ⟨x, rfl, looses_rel _ _ hp h1⟩
 | .bool x, v, hp, h => by simpa [Rel] using h
 | .int x y, v, hp, h => by simpa [Rel] using h
 | .str x, v, hp, h => by simpa [Rel] using h
 | .nilPtr, v, hp, h => by simpa [Rel] using h
 | .nilSlice, v, hp, h => by simpa [Rel] using h
 | .nilMap, v, hp, h => by simpa [Rel] using h
 | .nilFunc, v, hp, h => by simpa [Rel] using h
 | .nilIface, v, hp, h => by simpa [Rel] using h
 | .optr _ _, v, hp, h => by simpa [Rel] using h
 | .oslice _ _ _ _ _, v, hp, h => by simpa [Rel] using h
 | .omap _, v, hp, h => by simpa [Rel] using h
 | .raw _, _, hp, _ => by cases hp
 | .vptr _ _, _, hp, _ => by cases hp
 | .vslice _ _, _, hp, _ => by cases hp
 | .func _ _ _, _, hp, _ => by cases hp
 | .iface _ _, _, hp, _ => by cases hp
theorem looses_rel {w : World} {H H' : DHeap} : ∀ (ds : List DVal) (vs : List Value), loose.looses ds = true → RelL w H ds vs → RelL w H' ds vs
 | [], _, _, h => by simpa [RelL] using h
 | d :: ds, vs, hp, h => by
  simp only [loose.looses, Bool.and_eq_true] at hp
  simp only [RelL] at h ⊢
  obtain ⟨y, ys, rfl, h1, h2⟩ := h
  exact ⟨y, ys, rfl, loose_rel d y hp.1 h1, looses_rel ds ys hp.2 h2⟩
end
theorem looses_iff {l : List DVal} : loose.looses l = true ↔ ∀ d ∈ l, loose d = true := by
 induction l with
 | nil => simp [loose.looses]
 | cons d l ih => simp [loose.looses, ih]
def looseO : DObj → Bool
 | .cells cs _ => loose.looses cs
 | .map es => es.all fun p => loose p.1 && loose p.2
 | .loop _ _ _ => false
 | .iter _ _ => true
def Loose (H H' : DHeap) : Prop := ∀ r o, H' r = some o → H r = some o ∨ looseO o = true
theorem Loose.refl (H : DHeap) : Loose H H := fun _ _ h => .inl h
theorem Loose.upd {H H' : DHeap} (h : Loose H H') {r : Nat} {o : DObj} (ho : looseO o = true) : Loose H (upd H' r (some o)) := fun b p hb => by
 simp only [Dl.upd] at hb;split at hb
 ·cases hb; exact .inr ho
 ·exact h b p hb
end Go.Dl

-- THE DATA LEVEL, PART J: slices that are built up beside other memory of the call's own that nobody asks for any more.
namespace Go.Dl
open Go Go.RowKit
theorem lasts_h0 (H : DHeap) (w : World) : Lasts H w h0 w := lasts_sub (fun r o h => by cases h) w
def Sub (H H' : DHeap) : Prop := ∀ r o, H r = some o → H' r = some o
theorem Sub.refl (H : DHeap) : Sub H H := fun _ _ h => h
theorem Sub.trans {H H' H'' : DHeap} (h : Sub H H') (k : Sub H' H'') : Sub H H'' := fun r o x => k r o (h r o x)
theorem Sub.lo {H H' : DHeap} (h : Sub H H') {r : Nat} (hr : H' r = none) : H r = none := by
 cases e : H r with
 | none => rfl
 | some o => rw [h r o e] at hr; cases hr
theorem Sub.up {H H' : DHeap} (h : Sub H H') {r : Nat} (hr : H r = none) (x : Option DObj) : Sub H (upd H' r x) := fun b o hb => by
 have : b ≠ r := fun e => by rw [e, hr] at hb; cases hb
 simp only [upd, if_neg this]; exact h b o hb
theorem Sub.new {H H' : DHeap} (h : Sub H H') {r : Nat} (hr : H' r = none) (x : Option DObj) : Sub H (upd H' r x) := h.up (h.lo hr) x
theorem Sub.both {H H' : DHeap} (h : Sub H H') (r : Nat) (x : Option DObj) : Sub (upd H r x) (upd H' r x) := fun b o hb => by
 simp only [upd] at hb ⊢; split <;> rename_i e
 ·rwa [if_pos e] at hb
 ·rw [if_neg e] at hb; exact h b o hb
def OwnJ (H : DHeap) (e : TypeId) (size n : Nat) (cs : List DVal) (v : DVal) (H' : DHeap) : Prop :=
 (n = 0 ∧ cs = [] ∧ v = .nilSlice ∧ Sub H H') ∨ ∃ r, H r = none ∧ cs.length = n * size ∧ v = .oslice size r 0 n n ∧ H' r = some (.cells cs e) ∧ Sub H H'
section
variable {P : Program} {G : Nat → DVal} {H H' : DHeap} {e : TypeId} {size n : Nat} {cs : List DVal} {v : DVal}
theorem OwnJ.nil (e : TypeId) (size : Nat) (h : Sub H H') : OwnJ H e size 0 [] .nilSlice H' := .inl ⟨rfl, rfl, rfl, h⟩
theorem OwnJ.sub (h : OwnJ H e size n cs v H') : Sub H H' := by
 rcases h with ⟨_, _, _, h⟩ | ⟨_, _, _, _, _, h⟩ <;> exact h
theorem OwnJ.keep (h : OwnJ H e size n cs v H') {r : Nat} {o : DObj} (hr : H r = some o) : H' r = some o := h.sub r o hr
theorem OwnJ.more (h : OwnJ H e size n cs v H') {H2 : DHeap} (k : Sub H' H2) : OwnJ H e size n cs v H2 := by
 rcases h with ⟨a, b, c, d⟩ | ⟨r, a, b, c, d, f⟩
 ·exact .inl ⟨a, b, c, d.trans k⟩
 ·exact .inr ⟨r, a, b, c, k _ _ d, f.trans k⟩
theorem OwnJ.new (h : OwnJ H e size n cs v H') {r : Nat} (hr : H' r = none) (x : Option DObj) : OwnJ H e size n cs v (upd H' r x) := h.more ((Sub.refl H').up hr x)
theorem OwnJ.less (h : OwnJ H e size n cs v H') {H1 : DHeap} (k : Sub H1 H) : OwnJ H1 e size n cs v H' := by
 rcases h with ⟨a, b, c, d⟩ | ⟨r, a, b, c, d, f⟩
 ·exact .inl ⟨a, b, c, k.trans d⟩
 ·exact .inr ⟨r, k.lo a, b, c, d, k.trans f⟩
theorem OwnJ.frame (h : OwnJ H e size n cs v H') {r : Nat} (hr : H' r = none) (o : DObj) : OwnJ (upd H r (some o)) e size n cs v (upd H' r (some o)) := by
 rcases h with ⟨a, b, c, d⟩ | ⟨r0, a, b, c, d, f⟩
 ·exact .inl ⟨a, b, c, d.both _ _⟩
 ·have : r0 ≠ r := fun e => by rw [e, hr] at d; cases d
  exact .inr ⟨r0, by simp [upd, this, a], b, c, by simp [upd, this, d], f.both _ _⟩
theorem OwnJ.exact (h : OwnJ H e size n cs v H') : ∃ H1, OwnA H e size n cs v H1 ∧ Sub H1 H' := by
 rcases h with ⟨a, b, c, d⟩ | ⟨r, a, b, c, d, f⟩
 ·exact ⟨H, .inl ⟨a, b, c, rfl⟩, d⟩
 ·refine ⟨_, .inr ⟨r, a, b, c, rfl⟩, fun k o hk => ?_⟩;simp only [upd] at hk;split at hk
  ·rename_i e; subst e; cases hk; exact d
  ·exact f k o hk
theorem OwnJ.append {m bytes : Nat} {news : List DVal} {dst : Option Nat} {K : DK} {env : Nat → DVal} (hv : OwnJ H e size n cs v H') (hm : news.length = m * size) (hb : (n + m) * bytes ≤ 35184372088832)
  (hK : ∀ v' H2, OwnJ H e size (n + m) (cs ++ news) v' H2 → K ⟨updO env dst v', H2⟩) : dAppendTo e size bytes m news dst v K ⟨env, H'⟩ := by
 rcases hv with ⟨rfl, rfl, rfl, hs⟩ | ⟨r, hr, hl, rfl, hc, hs⟩
 ·simp only [dAppendTo];refine ⟨fun h0 => ?_, fun h0 => ⟨by simpa using hb, fun r hr => ?_⟩⟩
  ·subst h0;have : news = [] := List.length_eq_zero_iff.1 (by omega);subst this;exact hK _ _ (.inl ⟨rfl, rfl, rfl, hs⟩)
  ·refine hK _ _ (.inr ⟨r, hs.lo hr, by simpa using hm, by simp, by rw [List.nil_append]; exact upd_same _ _ _, hs.new hr _⟩)
 ·simp only [dAppendTo, true_and];rw [hc];by_cases h0 : m = 0
  ·subst h0;have : news = [] := List.length_eq_zero_iff.1 (by omega);subst this;rw [dAppendO_in (by omega)];refine ⟨by simp [hl], ?_⟩;have := hK (.oslice size r 0 (n + 0) n) H' (.inr ⟨r, hr, by simpa using hl, by simp, by simpa using hc, hs⟩);simp only [splice, List.length_nil, List.append_nil, Nat.add_zero, List.take_append_drop];rw [upd_self hc];simpa using this
  ·rw [dAppendO_out (by omega) (by omega)];refine ⟨by omega, hb, fun r' hr' => ?_⟩;dsimp only at hr' ⊢
   by_cases e1 : r' = r
   ·subst e1;refine hK _ _ (.inr ⟨r', hr, ?_, rfl, ?_, ?_⟩)
    ·simp [hl, hm, Nat.add_mul]
    ·rw [upd_same, List.take_of_length_le (by omega)]
    ·exact (hs.up hr _).up hr _
   ·have hr2 : H' r' = none := by simpa [upd, e1] using hr'
    refine hK _ _ (.inr ⟨r', hs.lo hr2, ?_, rfl, ?_, ?_⟩)
    ·simp [hl, hm, Nat.add_mul]
    ·rw [upd_same, List.take_of_length_le (by omega)]
    ·exact (hs.up hr _).up (hs.lo hr2) _
theorem OwnJ.appendO {r m bytes : Nat} {news : List DVal} {dst : Option Nat} {K : DK} {env : Nat → DVal} (hv : OwnJ H e size n cs (.oslice size r 0 n n) H') (hm : news.length = m * size) (hb : (n + m) * bytes ≤ 35184372088832)
  (hK : ∀ v' H2, OwnJ H e size (n + m) (cs ++ news) v' H2 → K ⟨updO env dst v', H2⟩) : dAppendO e size bytes r 0 n n m news dst K ⟨env, H'⟩ (some (.cells cs e)) := by
 have h := OwnJ.append hv hm hb hK;have hc : H' r = some (.cells cs e) := by
  rcases hv with ⟨_, _, h, _⟩ | ⟨r', _, _, h, hc, _⟩
  ·cases h
  ·cases h; exact hc
 simp only [dAppendTo, true_and, hc] at h;exact h
theorem OwnJ.ghost (hv : OwnJ H e size n cs v H') : GhostE H' v H (.vslice cs n) := by
 obtain ⟨H1, h1, h2⟩ := hv.exact;exact (GhostE.sub h2 v).trans h1.ghost
theorem OwnJ.fin {R : DEnd → DHeap → Prop} (hv : OwnJ H e size n cs v H') (h : R (.ret (.vslice cs n)) H) : DFin R v H' := .ghost hv.ghost (.refl h)
theorem DLoop.runG {body : (DExit → DS → Prop) → DK} {Q : DExit → DS → Prop} {s : DS} {ι : Type} (I : ι → (Nat → DVal) → DHeap → Prop) (μ : ι → Nat) (i : ι) (s0 : DS) (hg : GhostS G s s0) (h0 : I i s0.env s0.heap)
  (hr : ∀ i env heap, I i env heap → body (DSeqQ (fun s1 => ∃ j s2, GhostS G s1 s2 ∧ I j s2.env s2.heap ∧ μ j < μ i) Q) ⟨env, heap⟩) : DLoop G body Q s :=
 ⟨ι, fun i s => I i s.env s.heap, μ, ⟨i, s0, hg, h0⟩, fun i s h => hr i s.env s.heap h⟩
theorem OwnJ.cell1 (h : OwnJ H e size n cs v H') : v.cells = [v] ∧ v.one = true := by
 rcases h with ⟨_, _, rfl, _⟩ | ⟨_, _, _, rfl, _⟩ <;> exact ⟨rfl, rfl⟩
end
end Go.Dl

-- THE DATA LEVEL, PART K: the frame of a call: what a callee makes with no memory of the caller's at hand, it makes beside it.
namespace Go.Dl
open Go
set_option maxRecDepth 10000
theorem DCalls.frame {P : Program} {G : Nat → DVal} {f : FuncId} {args args' : List DVal} {H : DHeap} {R : DEnd → DHeap → Prop} (h : DCalls P G f args' h0 R)
  (hb : ∀ w vs, SimHeap w H → RelL w H args vs → RelL w h0 args' vs) (hR : ∀ e X, R e X → ∃ v, e = .ret v ∧ loose v = true ∧ Loose h0 X) : DCalls P G f args H (fun e H' => ∃ X, R e X ∧ Disj H X ∧ H' = over H X) := by
 refine ⟨h.1, fun vs w hv hH hg => ?_⟩;have hg0 : GOk G w h0 := hg.lasts (lasts_h0 H w);refine (h.2 vs w (hb w vs hH hv) (fun r o hr => by cases hr) hg0).mono fun x w' ⟨e', X, r, k1, k2, k3⟩ => ?_;obtain ⟨v, rfl, hl, hX⟩ := hR _ _ r;have hown : ∀ b, X b ≠ none → w.heap.size ≤ b := fun b hb => (k3.own b hb).resolve_left (fun k => k rfl);have hd : Disj H X := fun b hb => by
  cases e1 : H b with
  | none => rfl
  | some o => have := hH.lt (r := b) (by simp [e1]); have := hown b hb; omega
 have hE : Ext H w (over H X) w' := ⟨k3.os, k3.tape, k3.output, k3.size, fun b hb _ => k3.block b hb rfl, fun b hb => by
  by_cases e1 : X b = none
  ·rw [over_hi e1] at hb; exact .inl hb
  ·exact .inr (hown b e1), k3.keep, fun a ha _ => k3.fz a ha rfl⟩
 refine ⟨.ret v, over H X, ⟨X, r, hd, rfl⟩, ?_, ?_, hE⟩
 ·cases k1 with
  | ret d x hx => exact .ret _ _ (loose_rel _ _ hl hx)
 ·intro b o ho;cases e1 : X b with
  | none =>
   rw [over_hi e1] at ho;rw [k3.block b (hH.lt (by simp [ho])) rfl];exact (hH b o ho).lasts hE.lasts
  | some o' =>
   rw [over_x e1] at ho; cases ho;have hlo : looseO o = true := (hX b o e1).resolve_left (fun k => by cases k);have hr := k2 b o e1;cases o with
   | cells cs e =>
    obtain ⟨xs, c, fz', h1, h2, h3, h4⟩ := hr;exact ⟨xs, c, fz', h1, h2, looses_rel _ _ hlo h3, h4⟩
   | loop _ _ _ => cases hlo
   | iter _ _ => exact hr
   | map es =>
    obtain ⟨ms, c, h1, h2⟩ := hr;refine ⟨ms, c, h1, ?_⟩;simp only [looseO, List.all_eq_true, Bool.and_eq_true] at hlo;clear h1 e1;generalize ms.toList = l at h2
    induction es generalizing l with
    | nil => exact h2
    | cons p es ih =>
     obtain ⟨m, ms', rfl, g1, g2, g3⟩ := h2;exact ⟨m, ms', rfl, loose_rel _ _ (hlo p (by simp)).1 g1, loose_rel _ _ (hlo p (by simp)).2 g2, ih (fun q hq => hlo q (List.mem_cons_of_mem _ hq)) _ g3⟩
theorem DCalls.lent {P : Program} {G : Nat → DVal} {f : FuncId} {args args' : List DVal} {H : DHeap} {v : DVal} (h : DCalls P G f args' h0 (DRet v h0))
  (hb : ∀ w vs, SimHeap w H → RelL w H args vs → RelL w h0 args' vs) (hv : loose v = true) : DCalls P G f args H (DRet v H) :=
 (h.frame hb (fun e X hr => ⟨v, hr.1, hv, by rw [hr.2]; exact .refl _⟩)).mono fun e H' ⟨X, hr, _, hH⟩ => ⟨hr.1, by rw [hH, hr.2, over_h0]⟩
end Go.Dl

-- Chapter 2: tokens: the plain laws, part 1: the words, the symbols, what a line yields.
namespace Go.Dl
open Go
set_option maxRecDepth 10000
def keysL : List (List UInt8) := [[97, 98, 111, 114, 116],
 [97, 98, 115],
 [97, 99, 99, 101, 112, 116],
 [97, 99, 99, 101, 115, 115],
 [97, 108, 105, 97, 115, 101, 100],
 [97, 108, 108],
 [97, 110, 100],
 [97, 114, 114, 97, 121],
 [98, 101, 103, 105, 110],
 [98, 111, 100, 121],
 [99, 97, 115, 101],
 [99, 111, 110, 115, 116, 97, 110, 116],
 [100, 101, 99, 108, 97, 114, 101],
 [100, 101, 108, 97, 121],
 [100, 111],
 [101, 108, 115, 101],
 [101, 108, 115, 105, 102],
 [101, 110, 100],
 [101, 110, 116, 114, 121],
 [101, 120, 99, 101, 112, 116, 105, 111, 110],
 [101, 120, 105, 116],
 [102, 111, 114],
 [102, 117, 110, 99, 116, 105, 111, 110],
 [103, 101, 110, 101, 114, 105, 99],
 [105, 102],
 [105, 110],
 [105, 115],
 [108, 105, 109, 105, 116, 101, 100],
 [108, 111, 111, 112],
 [109, 111, 100],
 [110, 101, 119],
 [110, 111, 116],
 [110, 117, 108, 108],
 [111, 102],
 [111, 114],
 [111, 116, 104, 101, 114, 115],
 [111, 117, 116],
 [112, 97, 99, 107, 97, 103, 101],
 [112, 114, 97, 103, 109, 97],
 [112, 114, 105, 118, 97, 116, 101],
 [112, 114, 111, 99, 101, 100, 117, 114, 101],
 [112, 114, 111, 116, 101, 99, 116, 101, 100],
 [114, 97, 105, 115, 101],
 [114, 97, 110, 103, 101],
 [114, 101, 99, 111, 114, 100],
 [114, 101, 109],
 [114, 101, 110, 97, 109, 101, 115],
 [114, 101, 113, 117, 101, 117, 101],
 [114, 101, 116, 117, 114, 110],
 [114, 101, 118, 101, 114, 115, 101],
 [115, 101, 108, 101, 99, 116],
 [115, 101, 112, 97, 114, 97, 116, 101],
 [115, 117, 98, 116, 121, 112, 101],
 [116, 97, 115, 107],
 [116, 101, 114, 109, 105, 110, 97, 116, 101],
 [116, 104, 101, 110],
 [116, 121, 112, 101],
 [117, 110, 116, 105, 108],
 [117, 115, 101],
 [119, 104, 101, 110],
 [119, 104, 105, 108, 101],
 [119, 105, 116, 104],
 [120, 111, 114]]
def letterB (c : UInt8) : Bool := decide (65 ≤ c.toNat) && decide (c.toNat ≤ 90) || decide (97 ≤ c.toNat) && decide (c.toNat ≤ 122)
def digitB (c : UInt8) : Bool := decide (48 ≤ c.toNat) && decide (c.toNat ≤ 57)
def wordB (c : UInt8) : Bool := letterB c || digitB c || decide (c = 95)
def wordL (s : List UInt8) : List UInt8 := s.takeWhile wordB
def keyB (s : List UInt8) : Bool := decide (s ∈ keysL)
def nameB (s : List UInt8) : Bool := (match s with | c :: _ => letterB c | [] => false) && decide (s.length ≤ 32) && s.all wordB && !keyB s
def syms2 : List (UInt8 × UInt8) := [(61, 62), (46, 46), (58, 61), (47, 61), (60, 61), (62, 61), (60, 62)]
def syms1 : List UInt8 := [40, 41, 44, 59, 58, 46, 39, 43, 45, 42, 47, 61, 60, 62, 124]
def symN : List UInt8 → Nat
 | [] => 0
 | [a] => if a ∈ syms1 then 1 else 0
 | a :: b :: _ => if (a, b) ∈ syms2 then 2 else if a ∈ syms1 then 1 else 0
structure Tok where
 kind : Int
 line : Int
 text : List UInt8
 n : Int
 deriving DecidableEq, Inhabited
def tok0 : Tok := ⟨0, 0, [], 0⟩
def decV (w : List UInt8) : Nat := w.foldl (fun v c => 10 * v + (c.toNat - 48)) 0
def intV (w : List UInt8) : Option Nat := if w.length ≤ 10 ∧ w.all digitB = true ∧ decV w ≤ 2147483647 then some (decV w) else none
def firstT (s : List UInt8) : Tok × Nat :=
 match s with
 | [] => (tok0, 0)
 | c :: _ => if letterB c then (if keyB (wordL s) then (⟨2, 0, wordL s, 0⟩, (wordL s).length) else if nameB (wordL s) then (⟨1, 0, wordL s, 0⟩, (wordL s).length) else (tok0, 0))
  else if digitB c then (match intV (wordL s) with | some v => (⟨3, 0, [], v⟩, (wordL s).length) | none => (tok0, 0))
  else (⟨4, 0, s.take (symN s), 0⟩, symN s)
def plainB (s : List UInt8) : Bool := s.all fun c => decide (32 ≤ c.toNat) && decide (c.toNat ≤ 126)
def trimL (s : List UInt8) : List UInt8 := s.dropWhile (· == 32)
def isCom : List UInt8 → Bool
 | 45 :: 45 :: _ => true
 | _ => false
def yieldF : Nat → List UInt8 → List (Tok × Bool)
 | 0, _ => []
 | k + 1, s =>
  if trimL s = [] ∨ isCom (trimL s) = true then (if plainB (trimL s) then [] else [(tok0, false)])
  else if (firstT (trimL s)).2 = 0 then [((firstT (trimL s)).1, false)]
  else ((firstT (trimL s)).1, true) :: yieldF k ((trimL s).drop (firstT (trimL s)).2)
def yieldsL (s : List UInt8) : List (Tok × Bool) := yieldF (s.length + 1) s
theorem trimL_len (s : List UInt8) : (trimL s).length ≤ s.length := by
 unfold trimL;exact (List.dropWhile_sublist _).length_le
theorem yieldF_fuel : ∀ (k k' : Nat) (s : List UInt8), s.length < k → s.length < k' → yieldF k s = yieldF k' s
 | 0, _, _, h, _ => by omega
 | _, 0, _, _, h => by omega
 | k + 1, k' + 1, s, h, h' => by
  unfold yieldF;split
  ·rfl
  ·rename_i hc
   split
   ·rfl
   ·rename_i h0
    have hl := trimL_len s;have hne : trimL s ≠ [] := fun e => hc (.inl e);have hpos : 0 < (trimL s).length := List.length_pos_iff.2 hne;rw [yieldF_fuel k k' _ (by rw [List.length_drop]; omega) (by rw [List.length_drop]; omega)]
theorem yieldsL_eq (s : List UInt8) : yieldsL s =
  if trimL s = [] ∨ isCom (trimL s) = true then (if plainB (trimL s) then [] else [(tok0, false)])
  else if (firstT (trimL s)).2 = 0 then [((firstT (trimL s)).1, false)]
  else ((firstT (trimL s)).1, true) :: yieldsL ((trimL s).drop (firstT (trimL s)).2) := by
 unfold yieldsL;rw [yieldF];split
 ·rfl
 ·rename_i hc
  split
  ·rfl
  ·rename_i h0
   have hl := trimL_len s;have hne : trimL s ≠ [] := fun e => hc (.inl e);have hpos : 0 < (trimL s).length := List.length_pos_iff.2 hne;rw [yieldF_fuel s.length _ ((trimL s).drop (firstT (trimL s)).2) (by rw [List.length_drop]; omega) (Nat.lt_succ_self _)]
end Go.Dl

-- Chapter 2: tokens: the plain laws, part 2: lines, errors; comments and joined texts.
namespace Go.Dl
open Go
set_option maxRecDepth 10000
theorem word_app (s r : List UInt8) (c : UInt8) (hc : wordB c = false) : wordL (s ++ c :: r) = wordL s := by
 unfold wordL;rw [List.takeWhile_append];split
 ·rename_i h
  have : s.takeWhile wordB = s := (List.takeWhile_prefix wordB).eq_of_length h;rw [this]; simp [hc]
 ·rfl
theorem sym_le (s : List UInt8) : symN s ≤ s.length := by
 match s with
 | [] => exact Nat.le_refl _
 | [a] => simp only [symN]; split <;> simp
 | a :: b :: s => simp only [symN]; split <;> (try split) <;> simp
theorem word_le (s : List UInt8) : (wordL s).length ≤ s.length := (List.takeWhile_sublist _).length_le
theorem first_le (s : List UInt8) : (firstT s).2 ≤ s.length := by
 have hw := word_le s
 have hs := sym_le s
 match s with
 | [] => exact Nat.le_refl _
 | c :: s =>
  unfold firstT
  dsimp only
  split
  ·split
   ·exact hw
   ·split
    ·exact hw
    ·exact Nat.zero_le _
  ·split
   ·split
    ·exact hw
    ·exact Nat.zero_le _
   ·exact hs
theorem plain_app (s r : List UInt8) : plainB (s ++ r) = (plainB s && plainB r) := by simp [plainB]
def splitBy (c : UInt8) : List UInt8 → List UInt8 → List (List UInt8)
 | [], cur => [cur]
 | b :: s, cur => if b = c then cur :: splitBy c s [] else splitBy c s (cur ++ [b])
theorem splitBy_no (c : UInt8) (w : List UInt8) (h : c ∉ w) : ∀ cur, splitBy c w cur = [cur ++ w] := by
 induction w with
 | nil => intro cur; simp [splitBy]
 | cons b w ih =>
  intro cur;simp only [List.mem_cons, not_or] at h;rw [splitBy, if_neg (fun e => h.1 e.symm), ih h.2]; simp
theorem splitBy_at (c : UInt8) (w r : List UInt8) (h : c ∉ w) : ∀ cur, splitBy c (w ++ c :: r) cur = (cur ++ w) :: splitBy c r [] := by
 induction w with
 | nil => intro cur; simp [splitBy]
 | cons b w ih =>
  intro cur;simp only [List.mem_cons, not_or] at h;rw [List.cons_append, splitBy, if_neg (fun e => h.1 e.symm), ih h.2]; simp
theorem splitBy_app (c : UInt8) (b : List UInt8) : ∀ (a cur : List UInt8), splitBy c (a ++ c :: b) cur = splitBy c a cur ++ splitBy c b []
 | [], cur => by simp [splitBy]
 | x :: a, cur => by
  rw [List.cons_append, splitBy, splitBy];split
  ·rw [splitBy_app c b a []]; rfl
  ·exact splitBy_app c b a _
theorem splitBy_ne (c : UInt8) : ∀ (a cur : List UInt8), splitBy c a cur ≠ []
 | [], cur => by simp [splitBy]
 | x :: a, cur => by
  rw [splitBy]; split
  ·simp
  ·exact splitBy_ne c a _
theorem splitBy_mem (c : UInt8) : ∀ (a cur w : List UInt8), c ∉ cur → w ∈ splitBy c a cur → c ∉ w
 | [], cur, w, h, hw => by
  simp only [splitBy, List.mem_singleton] at hw; rw [hw]; exact h
 | x :: a, cur, w, h, hw => by
  rw [splitBy] at hw;split at hw
  ·rcases List.mem_cons.1 hw with rfl | hw
   ·exact h
   ·exact splitBy_mem c a [] w (by simp) hw
  ·rename_i hx
   exact splitBy_mem c a _ w (by simp only [List.mem_append, List.mem_singleton, not_or]; exact ⟨h, fun e => hx e.symm⟩) hw
def joinL : List (List UInt8) → List UInt8
 | [] => []
 | [s] => s
 | s :: t :: l => s ++ 10 :: joinL (t :: l)
def linesL (s : List UInt8) : List (List UInt8) := splitBy 10 s []
theorem lines_join : ∀ ls : List (List UInt8), ls ≠ [] → (∀ s ∈ ls, (10 : UInt8) ∉ s) → linesL (joinL ls) = ls
 | [], h, _ => absurd rfl h
 | [s], _, hs => by rw [joinL, linesL, splitBy_no 10 s (hs s (by simp))]; rfl
 | s :: t :: l, _, hs => by
  have := lines_join (t :: l) (by simp) fun u hu => hs u (List.mem_cons_of_mem _ hu);rw [linesL] at this ⊢
  rw [joinL, splitBy_at 10 s _ (hs s (by simp)), this]; rfl
theorem join_lines (s : List UInt8) : ∀ cur, joinL (splitBy 10 s cur) = cur ++ s := by
 induction s with
 | nil => intro cur; simp [splitBy, joinL]
 | cons x s ih =>
  intro cur;rw [splitBy];split
  ·rename_i h
   subst h;have := ih [];cases hsp : splitBy 10 s [] with
   | nil => exact absurd hsp (splitBy_ne _ _ _)
   | cons t l => rw [hsp] at this; rw [joinL, this]; rfl
  ·rw [ih]; simp
def allY : List (List UInt8) → Nat → List (Tok × Bool × Int)
 | [], _ => []
 | s :: ls, i => (yieldsL s).map (fun p => ({ p.1 with line := i }, p.2, (i : Int))) ++ allY ls (i + 1)
def outY : List (Tok × Bool × Int) → Nat → Option (Int × Int)
 | [], _ => none
 | p :: r, n => if p.2.1 = false then some (p.2.2, 20) else if n = 8192 then some (p.2.2, 3) else outY r (n + 1)
def tokensL (src : List UInt8) : List Tok × Int × Int :=
 if 65536 < src.length then ([], 0, 3) else match outY (allY (linesL src) 1) 0 with
  | some e => ([], e.1, e.2)
  | none => ((allY (linesL src) 1).map (·.1), 0, 0)
end Go.Dl

-- Chapter 2: tokens: the plain laws, part 3: the text of tokens, and the tokens of that text.
namespace Go.Dl
open Go
set_option maxRecDepth 10000
theorem letter_word {c : UInt8} (h : letterB c = true) : wordB c = true := by simp [wordB, h]
theorem decV_snoc (w : List UInt8) (c : UInt8) : decV (w ++ [c]) = 10 * decV w + (c.toNat - 48) := by simp [decV, List.foldl_append]
theorem digit_word {c : UInt8} (h : digitB c = true) : wordB c = true := by simp [wordB, h]
theorem take_all : ∀ w : List UInt8, w.all wordB = true → wordL w = w
 | [], _ => rfl
 | c :: w, h => by
  rw [List.all_cons, Bool.and_eq_true] at h;show List.takeWhile wordB (c :: w) = _;rw [List.takeWhile_cons, h.1];have := take_all w h.2;unfold wordL at this;simp [this]
end Go.Dl

-- Chapter 2: tokens: the plain laws, part 4: the tokens of the text of tokens.
namespace Go.Dl
open Go
set_option maxRecDepth 10000
theorem word_char {c : UInt8} (h : wordB c = true) : 33 ≤ c.toNat ∧ c.toNat ≤ 126 := by
 have hu : c = 95 → c.toNat = 95 := fun e => by rw [e]; rfl
 unfold wordB letterB digitB at h;simp only [Bool.or_eq_true, Bool.and_eq_true, decide_eq_true_eq] at h;rcases h with ((h | h) | h) | h
 ·omega
 ·omega
 ·omega
 ·have := hu h; omega
end Go.Dl

-- Chapter 2: tokens: the plain laws, part 6: numbers; a text again.
namespace Go.Dl
open Go
set_option maxRecDepth 10000
theorem trim_ne {c : UInt8} (r : List UInt8) (h : c ≠ 32) : trimL (c :: r) = c :: r := by
 unfold trimL;rw [List.dropWhile_cons, beq_eq_false_iff_ne.2 h]; rfl
theorem com_ne {c : UInt8} (r : List UInt8) (h : c ≠ 45) : isCom (c :: r) = false := by
 unfold isCom;split
 ·rename_i e; simp at e; exact absurd e.1 h
 ·rfl
theorem yields_step {c : UInt8} {r : List UInt8} (h32 : c ≠ 32) (hc : isCom (c :: r) = false) : yieldsL (c :: r) = if (firstT (c :: r)).2 = 0 then [((firstT (c :: r)).1, false)] else ((firstT (c :: r)).1, true) :: yieldsL ((c :: r).drop (firstT (c :: r)).2) := by
 rw [yieldsL_eq, trim_ne r h32, if_neg (fun h => h.elim (by simp) (fun h => by rw [hc] at h; cases h))]
end Go.Dl

-- Chapter 2: tokens: the plain laws, part 7: what the library's functions say of symbols, spaces, comments.
namespace Go.Dl
open Go
set_option maxRecDepth 10000
theorem less_irr : ∀ a : List UInt8, Go.Op.bytesLess a a = false
 | [] => rfl
 | x :: a => by
  unfold Go.Op.bytesLess;simp [less_irr a]
theorem less_asym : ∀ a b : List UInt8, Go.Op.bytesLess a b = true → Go.Op.bytesLess b a = false
 | [], [], h => rfl
 | [], _ :: _, _ => rfl
 | _ :: _, [], h => by cases h
 | x :: a, y :: b, h => by
  unfold Go.Op.bytesLess at h ⊢
  by_cases e : x = y
  ·subst e;simp only [UInt8.lt_irrefl] at h ⊢
   simp at h ⊢
   exact less_asym a b h
  ·have hn : y ≠ x := fun h => e h.symm;simp [e, hn] at h ⊢
   exact UInt8.le_of_lt h
theorem keys_sorted : keysL.Pairwise (fun a b => Go.Op.bytesLess a b = true) := by decide +kernel
structure halfAt (l : List (List UInt8)) (s : List UInt8) (i j : Nat) : Prop where
 le : i ≤ j
 len : j ≤ l.length
 lo : ∀ k w, k < i → l[k]? = some w → w ≠ s
 hi : ∀ k w, j < k → l[k]? = some w → w ≠ s
theorem half_start (l : List (List UInt8)) (s : List UInt8) : halfAt l s 0 l.length :=
 ⟨Nat.zero_le _, Nat.le_refl _, fun _ _ h => by omega, fun k w h hk => by rw [List.getElem?_eq_none (by omega)] at hk; cases hk⟩
theorem half_lt {l : List (List UInt8)} {a : Nat} {b : Nat} {u v : List UInt8} (hl : l.Pairwise fun a b => Go.Op.bytesLess a b = true) (h : a < b) (ha : l[a]? = some u) (hb : l[b]? = some v) : Go.Op.bytesLess u v = true := by
 obtain ⟨h1, rfl⟩ := List.getElem?_eq_some_iff.1 ha;obtain ⟨h2, rfl⟩ := List.getElem?_eq_some_iff.1 hb;exact List.pairwise_iff_getElem.1 hl a b h1 h2 h
theorem half_up {l : List (List UInt8)} {s w : List UInt8} {i j h : Nat} (hl : l.Pairwise fun a b => Go.Op.bytesLess a b = true) (hk : halfAt l s i j) (h2 : h < j) (hw : l[h]? = some w) (hlt : Go.Op.bytesLess w s = true) : halfAt l s (h + 1) j := by
 obtain ⟨k1, k2, k3, k4⟩ := hk;refine ⟨by omega, k2, fun k u hku hu e => ?_, k4⟩;subst e;rcases Nat.lt_or_ge k h with hlt' | hge
 ·have := half_lt hl hlt' hu hw;rw [less_asym _ _ this] at hlt; cases hlt
 ·have : k = h := by omega
  subst this;rw [hw] at hu; cases hu;rw [less_irr] at hlt; cases hlt
theorem half_down {l : List (List UInt8)} {s w : List UInt8} {i j h : Nat} (hl : l.Pairwise fun a b => Go.Op.bytesLess a b = true) (hk : halfAt l s i j) (h1 : i ≤ h) (h2 : h < j) (hw : l[h]? = some w) (hlt : Go.Op.bytesLess w s = false) : halfAt l s i h := by
 obtain ⟨k1, k2, k3, k4⟩ := hk;refine ⟨h1, by omega, k3, fun k u hku hu e => ?_⟩;subst e;rw [half_lt hl hku hw hu] at hlt; cases hlt
theorem half_end {l : List (List UInt8)} {s : List UInt8} {i : Nat} (hk : halfAt l s i i) : decide (s ∈ l) = decide (l[i]? = some s) := by
 obtain ⟨_, _, k3, k4⟩ := hk;refine decide_eq_decide.2 ⟨fun h => ?_, fun h => List.mem_of_getElem? h⟩;obtain ⟨k, hk⟩ := List.mem_iff_getElem?.1 h;rcases Nat.lt_trichotomy k i with h1 | h1 | h1
 ·exact absurd rfl (k3 k s h1 hk)
 ·rw [← h1]; exact hk
 ·exact absurd rfl (k4 k s h1 hk)
end Go.Dl

-- Chapter 2: tokens: the plain laws, part 8: a text read byte by byte, as the reference does.
namespace Go.Dl
open Go
set_option maxRecDepth 10000
def restR (s : List UInt8) (line : Nat) (l : List Tok) : List Tok × Int × Int :=
 match outY (allY (linesL s) line) l.length with
 | some e => ([], e.1, e.2)
 | none => (l ++ (allY (linesL s) line).map (·.1), 0, 0)
theorem tokens_rest {s : List UInt8} (h : s.length ≤ 65536) : tokensL s = restR s 1 [] := by
 rw [tokensL, if_neg (by omega), restR, List.length_nil];cases outY (allY (linesL s) 1) 0 with
 | some e => rfl
 | none => rfl
theorem rest_nil (line : Nat) (l : List Tok) : restR [] line l = (l, 0, 0) := by
 have e : allY (linesL []) line = [] := rfl;rw [restR, e];show (l ++ [], (0 : Int), (0 : Int)) = _;rw [List.append_nil]
theorem rest_lf (r : List UInt8) (line : Nat) (l : List Tok) : restR (10 :: r) line l = restR r (line + 1) l := by
 have e : allY (linesL (10 :: r)) line = allY (linesL r) (line + 1) := by
  rw [linesL, splitBy, if_pos rfl, allY]; rfl
 rw [restR, restR, e]
theorem splitBy_cur (c : UInt8) : ∀ (s cur : List UInt8), ∃ h t, splitBy c s [] = h :: t ∧ splitBy c s cur = (cur ++ h) :: t
 | [], cur => ⟨[], [], rfl, by simp [splitBy]⟩
 | x :: s, cur => by
  rw [splitBy, splitBy];split
  ·exact ⟨[], _, rfl, by simp⟩
  ·obtain ⟨h, t, e1, e2⟩ := splitBy_cur c s [x];obtain ⟨h', t', e3, e4⟩ := splitBy_cur c s (cur ++ [x]);rw [e1] at e3; cases e3;exact ⟨x :: h, t, by rw [List.nil_append, e2]; rfl, by rw [e4]; simp⟩
theorem lines_cons {c : UInt8} (r : List UInt8) (hc : c ≠ 10) : ∃ h t, linesL r = h :: t ∧ linesL (c :: r) = (c :: h) :: t := by
 obtain ⟨h, t, e1, e2⟩ := splitBy_cur 10 r [c];exact ⟨h, t, e1, by rw [linesL, splitBy, if_neg hc, List.nil_append, e2]; rfl⟩
theorem lines_parts {s h : List UInt8} {t : List (List UInt8)} (e : linesL s = h :: t) : (10 : UInt8) ∉ h ∧ ((t = [] ∧ s = h) ∨ (t ≠ [] ∧ s = h ++ 10 :: joinL t)) ∧ ∀ n, n ≤ h.length → linesL (s.drop n) = h.drop n :: t := by
 have hm : ∀ w ∈ linesL s, (10 : UInt8) ∉ w := fun w hw => splitBy_mem 10 s [] w (by simp) hw
 have hj : joinL (linesL s) = s := by rw [linesL, join_lines]; rfl
 rw [e] at hm hj
 have h10 := hm h (by simp)
 have hd : ∀ n, (10 : UInt8) ∉ h.drop n := fun n hx => h10 (List.mem_of_mem_drop hx)
 match t with
 | [] =>
  have hs : h = s := hj
  subst hs
  exact ⟨h10, .inl ⟨rfl, rfl⟩, fun n hn => by rw [linesL, splitBy_no 10 _ (hd n)]; rfl⟩
 | u :: t =>
  have hs : h ++ 10 :: joinL (u :: t) = s := hj
  subst hs
  refine ⟨h10, .inr ⟨by simp, rfl⟩, fun n hn => ?_⟩
  rw [List.drop_append_of_le_length hn, linesL, splitBy_at 10 _ _ (hd n)]
  have := lines_join (u :: t) (by simp) fun w hw => hm w (List.mem_cons_of_mem _ hw)
  rw [linesL] at this
  rw [this]; rfl
theorem rest_sp (r : List UInt8) (line : Nat) (l : List Tok) : restR (32 :: r) line l = restR r line l := by
 obtain ⟨h, t, e1, e2⟩ := lines_cons (c := 32) r (by decide);have ey : yieldsL (32 :: h) = yieldsL h := by
  have ht : trimL (32 :: h) = trimL h := rfl;rw [yieldsL_eq (32 :: h), yieldsL_eq h, ht]
 have e : allY (linesL (32 :: r)) line = allY (linesL r) line := by rw [e1, e2, allY, allY, ey]
 rw [restR, restR, e]
theorem sym_lf (s r : List UInt8) (h : s ≠ []) : symN (s ++ 10 :: r) = symN s := by
 match s, h with
 | [], h => exact absurd rfl h
 | [a], _ =>
  have : (a, (10 : UInt8)) ∉ syms2 := by simp [syms2]
  simp only [List.cons_append, List.nil_append, symN, if_neg this]
 | a :: b :: s, _ => rfl
theorem first_lf (s r : List UInt8) (h : s ≠ []) : firstT (s ++ 10 :: r) = firstT s := by
 have hw : wordL (s ++ 10 :: r) = wordL s := word_app s r 10 rfl
 have hs := sym_lf s r h
 have ht : (s ++ 10 :: r).take (symN s) = s.take (symN s) := List.take_append_of_le_length (sym_le s)
 match s, h with
 | [], h => exact absurd rfl h
 | c :: s, _ =>
  unfold firstT
  rw [List.cons_append] at hw hs ht ⊢
  dsimp only
  rw [hw, hs, ht]
theorem rest_tok {c : UInt8} {r : List UInt8} (line : Nat) (l : List Tok) (h10 : c ≠ 10) (h32 : c ≠ 32) (hcom : isCom (c :: r) = false) :
  restR (c :: r) line l = if (firstT (c :: r)).2 = 0 then ([], (line : Int), 20) else if l.length = 8192 then ([], (line : Int), 3)
   else restR ((c :: r).drop (firstT (c :: r)).2) line (l ++ [{ (firstT (c :: r)).1 with line := (line : Int) }]) := by
 obtain ⟨h, t, e1, e2⟩ := lines_cons r h10
 obtain ⟨_, hp, hdrop⟩ := lines_parts e2
 have hf : firstT (c :: r) = firstT (c :: h) := by
  rcases hp with ⟨_, hs⟩ | ⟨_, hs⟩
  ·rw [hs]
  ·rw [hs, first_lf _ _ (by simp)]
 have hc2 : isCom (c :: h) = false := by
  rcases hp with ⟨_, hs⟩ | ⟨_, hs⟩
  ·rwa [hs] at hcom
  ·cases hi : isCom (c :: h) with
   | false => rfl
   | true =>
    rw [hs] at hcom
    match h with
    | [] => unfold isCom at hi; split at hi <;> simp_all
    | d :: h' =>
     by_cases hh : c = 45 ∧ d = 45
     ·obtain ⟨rfl, rfl⟩ := hh
      exact absurd hcom (by simp [isCom])
     ·unfold isCom at hi
      split at hi
      ·rename_i h45; simp at h45; exact absurd ⟨h45.1, h45.2.1⟩ hh
      ·cases hi
 have hle : (firstT (c :: h)).2 ≤ (c :: h).length := first_le _
 have hys := yields_step h32 hc2
 rw [hf, restR, e2, allY, hys]
 by_cases h0 : (firstT (c :: h)).2 = 0
 ·rw [if_pos h0, if_pos h0, List.map_cons, List.cons_append, outY, if_pos rfl]
 ·rw [if_neg h0, if_neg h0, List.map_cons, List.cons_append, outY, if_neg (by simp)]
  by_cases h8 : l.length = 8192
  ·rw [if_pos h8, if_pos h8]
  ·rw [if_neg h8, if_neg h8]
   have hd := hdrop _ hle
   rw [restR, hd, allY, List.length_append, List.length_singleton]
   split
   ·rfl
   ·simp
theorem rest_com (r : List UInt8) (line : Nat) (l : List Tok) : ∃ h t, linesL (45 :: 45 :: r) = h :: t ∧ (plainB h = false → restR (45 :: 45 :: r) line l = ([], (line : Int), 20)) ∧
  (plainB h = true → restR (45 :: 45 :: r) line l = restR ((45 :: 45 :: r).drop h.length) line l) := by
 obtain ⟨h1, t, e1, e2⟩ := lines_cons (c := 45) r (by decide);obtain ⟨h2, t2, e3, e4⟩ := lines_cons (c := 45) (45 :: r) (by decide);rw [e2] at e3; cases e3;obtain ⟨_, _, hdrop⟩ := lines_parts e4;have hy : yieldsL (45 :: 45 :: h1) = if plainB (45 :: 45 :: h1) then [] else [(tok0, false)] := by
  have ht : trimL (45 :: 45 :: h1) = 45 :: 45 :: h1 := rfl;rw [yieldsL_eq, ht, if_pos (.inr rfl)]
 refine ⟨_, t, e4, fun hp => ?_, fun hp => ?_⟩
 ·rw [restR, e4, allY, hy, hp, if_neg (by simp), List.map_cons, List.cons_append, outY, if_pos rfl]
 ·have hd := hdrop _ (Nat.le_refl _);rw [restR, restR, hd, e4, allY, allY, hy, hp, List.drop_length];rfl
end Go.Dl

-- Chapter 2: tokens: the plain laws, part 9: numbers by the library's reading; letters.
namespace Go.Dl
open Go
set_option maxRecDepth 10000
theorem digit_iff (c : UInt8) : digitB c = true ↔ 48 ≤ c.toNat ∧ c.toNat ≤ 57 := by simp [digitB]
theorem word_all {s : List UInt8} : (wordL s = s) ↔ s.all wordB = true := by
 constructor
 ·intro h;have : ∀ l : List UInt8, (l.takeWhile wordB).all wordB = true := fun l => by
   induction l with
   | nil => rfl
   | cons c l ih =>
    rw [List.takeWhile_cons];split
    ·rename_i hc; rw [List.all_cons, hc, ih]; rfl
    ·rfl
  rw [← h]; exact this s
 ·exact take_all s
theorem name_eq (s : List UInt8) : nameB s = (decide (s ≠ []) && (decide (s.length ≤ 32) && ((match s with | c :: _ => letterB c | [] => false) && (decide (wordL s = s) && !keyB s)))) := by
 have hw : decide (wordL s = s) = s.all wordB := by
  cases h : s.all wordB with
  | true => exact decide_eq_true (word_all.2 h)
  | false => exact decide_eq_false fun e => by rw [word_all.1 e] at h; cases h
 rw [hw]
 unfold nameB
 match s with
 | [] => rfl
 | c :: r =>
  simp only [ne_eq, reduceCtorEq, not_false_eq_true, decide_true, Bool.true_and]
  cases letterB c <;> cases decide ((c :: r).length ≤ 32) <;> cases (c :: r).all wordB <;> cases keyB (c :: r) <;> rfl
theorem word_at {s : List UInt8} {k : Nat} {c : UInt8} (h : (s.take k).all wordB = true) (hc : s[k]? = some c) (hw : wordB c = false) : wordL s = s.take k := by
 obtain ⟨hk, rfl⟩ := List.getElem?_eq_some_iff.1 hc;have e : s = s.take k ++ s[k] :: s.drop (k + 1) := by rw [← List.drop_eq_getElem_cons hk, List.take_append_drop]
 rw [show wordL s = wordL (s.take k ++ s[k] :: s.drop (k + 1)) from congrArg wordL e, word_app _ _ _ hw, take_all _ h]
theorem low_letter : ∀ n : Fin 256, letterB (UInt8.ofNat n.1) = (decide (97 ≤ n.1 ||| 32) && decide (n.1 ||| 32 ≤ 122)) := by decide +kernel
end Go.Dl

-- Names and reserved words (chapter 2), for the seats of chapters 3, 4, 5.
namespace Go.Dl
open Go Go.Proofs Go.RowKit
set_option maxRecDepth 100000
variable {H Hn : DHeap}
attribute [go_sem] List.getElem?_toArray List.getElem?_cons_zero List.getElem?_cons_succ List.append_eq
theorem tab_is {P : Program} {w : World} {H : DHeap} {G : Nat → DVal} {g : Nat} {name : String} {k : IntKind} {zs : List Int} (hg : P.globalNamed name = some g) (h : GOk G w H) (e : G g = .vptr (zs.map fun z => .int k z) 0) : Lib.TabIs P w name k zs := by
 have hx := h.exact g _ e;have hr := h.rel g;rw [e] at hr;have hc := tab_cells hg hr rfl;unfold Lib.TabIs World.var?;rw [hg];simp only [Option.bind_some];cases ho : w.heap[g]? with
 | none => rw [ho] at hx; cases hx
 | some o =>
  cases o with
  | cells c t fz =>
   rw [ho] at hx;simp only [csize, Option.some.injEq, List.length_map] at hx;simp only [Option.some.injEq];apply Array.ext_getElem?;intro i;by_cases hi : i < zs.length
   ·have := hc i zs[i] (List.getElem?_eq_getElem hi);simp only [World.cell?, ho] at this;simp [hi];simpa using this
   ·rw [Array.getElem?_eq_none (by omega), Array.getElem?_eq_none (by simp; omega)]
  | _ => rw [ho] at hx; cases hx
section
end
section
variable {G : Nat → DVal} {H : DHeap}
theorem flds_spec (hG : G 0 = .vptr (Lib.asciiSpaceTab.map fun z => .int .u8 z) 0) (s : List UInt8) (hs : s.length < 4294967281) (ha : ∀ (j : Nat) b, s[j]? = some b → b.toNat < 128) :
  DCalls Tryz.prog G 199 [.str s] H (DRet (dStrs (Lib.fields s)) H) := by
 refine ⟨Tryz.call199, fun vs w hv hH hg => ?_⟩;simp only [RelL, Rel] at hv;obtain ⟨_, _, rfl, rfl, rfl⟩ := hv;refine (Tryz.strings_Fields ⟨⟨s⟩⟩ w hs ha (tab_is (show Tryz.prog.globalNamed "strings.asciiSpace" = some 0 by kernel_rfl) hg hG)).mono fun e w' ⟨he, hw⟩ => ?_;subst he; subst hw;have hq : RowKit.Below w.heap.size w (w.alloc (.cells ((Lib.fields s).map fun l => Value.string ⟨l.toArray⟩).toArray 9)) := RowKit.Below.alloc (RowKit.Below.refl _ _) (Nat.le_refl _) _;obtain ⟨k1, k2⟩ := (Quiet.below hq).ext hH;refine ⟨_, H, ⟨rfl, rfl⟩, .ret _ _ ?_, k1, k2⟩;simp only [dStrs, Rel];refine ⟨_, _, by rfl, Nat.le_refl _, .inr ⟨w.heap.size, 0, (Lib.fields s).map fun l => Value.string ⟨l.toArray⟩, rfl, .inr ⟨?_, fun i x hx => ?_⟩, ?_⟩⟩
 ·cases e : H w.heap.size with
  | none => rfl
  | some o => exact absurd (hH.lt (r := w.heap.size) (by simp [e])) (by omega)
 ·rw [Nat.zero_add, World.cell?, World.alloc_heap_new];simpa using hx
 ·refine RelL.mk (by simp) fun i d x h1 h2 => ?_;simp only [List.getElem?_map, Option.map_eq_some_iff] at h1 h2;obtain ⟨b1, q1, rfl⟩ := h1;obtain ⟨b2, q2, rfl⟩ := h2;rw [q1] at q2; cases q2;simp [Rel]
end
structure GX (G : Nat → DVal) : Prop where
 space : G 0 = .vptr (Lib.asciiSpaceTab.map fun z => .int .u8 z) 0
theorem or32 : ∀ n : Fin 256, IntKind.u8.wrap (((BitVec.ofInt 8 ((n.1 : Nat) : Int) ||| BitVec.ofInt 8 32).toNat : Nat) : Int) = ((n.1 ||| 32 : Nat) : Int) := by decide +kernel
section
variable {G : Nat → DVal} {H : DHeap}
theorem letter_spec (G : Nat → DVal) (H : DHeap) (b : UInt8) : DCalls Tryz.prog G 171 [.int .u8 b.toNat] H (DRet (.bool (letterB b)) H) := by
 have hor := or32 ⟨b.toNat, b.toNat_lt⟩;have hl := low_letter ⟨b.toNat, b.toNat_lt⟩;dsimp only at hor hl;rw [UInt8.ofNat_toNat] at hl;rw [hl];clear hl;generalize b.toNat ||| 32 = m at hor ⊢
 refine dcalls_intro Tryz.func171 Tryz.call171 rfl (by kernel_rfl) ?_;simp (disch := omega) only [go_sem];generalize hm : IntKind.u8.wrap _ = z;have hz : z = (m : Int) := hm.symm.trans hor;subst hz;by_cases h1 : 97 ≤ m
 ·have h1' : (97 : Int) ≤ (m : Int) := by omega
  simp (disch := omega) only [go_sem, h1'];generalize hm2 : IntKind.u8.wrap _ = z;have hz : z = (m : Int) := hm2.symm.trans hor;subst hz;refine DFin.refl ⟨?_, rfl⟩;rw [decide_eq_decide.2 (show (m : Int) ≤ 122 ↔ m ≤ 122 by omega)]
 ·have h1' : ¬ (97 : Int) ≤ (m : Int) := by omega
  simp (disch := omega) only [go_sem, h1'];exact DFin.refl ⟨rfl, rfl⟩
theorem digit_spec (G : Nat → DVal) (H : DHeap) (b : UInt8) : DCalls Tryz.prog G 190 [.int .u8 b.toNat] H (DRet (.bool (digitB b)) H) := by
 refine dcalls_intro Tryz.func190 Tryz.call190 rfl (by kernel_rfl) ?_;by_cases h1 : 48 ≤ b.toNat
 ·have h1' : (48 : Int) ≤ (b.toNat : Int) := by omega
  simp (disch := omega) only [go_sem, h1'];refine DFin.refl ⟨?_, rfl⟩;rw [digitB, decide_eq_decide.2 (show (b.toNat : Int) ≤ 57 ↔ b.toNat ≤ 57 by omega), decide_eq_true h1, Bool.true_and]
 ·have h1' : ¬ (48 : Int) ≤ (b.toNat : Int) := by omega
  simp (disch := omega) only [go_sem, h1'];refine DFin.refl ⟨?_, rfl⟩;rw [digitB, decide_eq_false h1]; rfl
theorem isNaN_spec (G : Nat → DVal) (H : DHeap) (s : List UInt8) : DCalls Tryz.prog G 200 [.str s] H (DRet (.bool false) H) := by
 refine dcalls_intro Tryz.func200 Tryz.call200 rfl (by kernel_rfl) ?_;simp (disch := omega) only [go_sem];exact DFin.refl ⟨rfl, rfl⟩
theorem isNaN2_spec (G : Nat → DVal) (H : DHeap) (s : List UInt8) : DCalls Tryz.prog G 198 [.str s] H (DRet (.bool false) H) := by
 refine dcalls_intro Tryz.func198 Tryz.call198 rfl (by kernel_rfl) ?_;simp (disch := omega) only [go_sem];exact DFin.refl ⟨rfl, rfl⟩
theorem less_spec (G : Nat → DVal) (H : DHeap) (s t : List UInt8) : DCalls Tryz.prog G 197 [.str s, .str t] H (DRet (.bool (Go.Op.bytesLess s t)) H) := by
 refine dcalls_intro Tryz.func197 Tryz.call197 rfl (by kernel_rfl) ?_;simp (disch := omega) only [go_sem];refine (isNaN_spec G _ s).mono ?_;rintro _ H ⟨rfl, rfl⟩;simp (disch := omega) only [go_sem];exact DFin.refl ⟨rfl, rfl⟩
theorem search_spec (G : Nat → DVal) (H : DHeap) (l : List (List UInt8)) (s : List UInt8) (hl : l.Pairwise fun a b => Go.Op.bytesLess a b = true) (hn : l.length ≤ 1000000) :
  DCalls Tryz.prog G 186 [dStrs l, .str s] H (fun e H' => (∃ i : Nat, e = .ret (.tuple [dI i, .bool (decide (s ∈ l))])) ∧ H' = H) := by
 refine dcalls_intro Tryz.func186 Tryz.call186 rfl (by kernel_rfl) ?_;simp (disch := omega) only [go_sem, dStrs];obtain ⟨I, hI⟩ : ∃ I : Nat × Nat → (Nat → DVal) → DHeap → Prop, ∀ p env heap, I p env heap ↔ (env 0 = .vslice (l.map .str) l.length ∧ env 1 = .str s ∧ env 6 = dI l.length ∧ env 7 = dI p.1 ∧ env 8 = dI p.2 ∧ halfAt l s p.1 p.2 ∧ heap = H) := ⟨_, fun _ _ _ => Iff.rfl⟩;refine DLoop.run I (fun p => p.2 - p.1) (0, l.length) ((hI _ _ _).2 ?_) ?_
 ·simp (disch := omega) only [go_sem];(repeat' apply And.intro) <;> (try first | rfl | assumption | omega);exact half_start l s
 ·rintro ⟨i, j⟩ env heap hi;obtain ⟨e0, e1, e6, e7, e8, hh, rfl⟩ := (hI _ _ _).1 hi;dsimp only at e7 e8 hh;have hh1 := hh.le; have hh2 := hh.len;by_cases hlt : i < j
  ·have hm : (i + j) / 2 < l.length := by omega
   have w1 : IntKind.u64.wrap ((i : Int) + (j : Int)) = ((i + j : Nat) : Int) := by rw [IntKind.wrap_u64]; omega
   have w2 : (((i + j : Nat)) : Int).fdiv (2 ^ min 1 64) = (((i + j) / 2 : Nat) : Int) := by rw [show (2 : Int) ^ min 1 64 = 2 from rfl, Int.fdiv_eq_ediv_of_nonneg _ (by omega)]; omega
   have w3 : IntKind.i64.wrap ((((i + j) / 2 : Nat)) : Int) = (((i + j) / 2 : Nat) : Int) := by rw [IntKind.wrap_i64]; omega
   have hg : (l.map DVal.str)[(i + j) / 2]? = some (.str l[(i + j) / 2]) := by rw [List.getElem?_map, List.getElem?_eq_getElem hm]; rfl
   simp (disch := omega) only [go_sem, e0, e1, e6, e7, e8, hlt, w1, w2, w3, hg, hm];refine (less_spec G _ l[(i + j) / 2] s).mono ?_;rintro _ H1 ⟨rfl, rfl⟩;cases hb : Go.Op.bytesLess l[(i + j) / 2] s with
   | true =>
    simp (disch := omega) only [go_sem, e0, e1, e6, e7, e8];refine ⟨((i + j) / 2 + 1, j), _, GhostS.refl _, (hI _ _ _).2 ?_, by dsimp only; omega⟩;simp (disch := omega) only [go_sem, e0, e1, e6, e7, e8];(repeat' apply And.intro) <;> (try first | rfl | assumption | omega);exact half_up hl hh (by omega) (List.getElem?_eq_getElem hm) hb
   | false =>
    simp (disch := omega) only [go_sem, e0, e1, e6, e7, e8];refine ⟨(i, (i + j) / 2), _, GhostS.refl _, (hI _ _ _).2 ?_, by dsimp only; omega⟩;simp (disch := omega) only [go_sem, e0, e1, e6, e7, e8];(repeat' apply And.intro) <;> (try first | rfl | assumption | omega);exact half_down hl hh (by omega) (by omega) (List.getElem?_eq_getElem hm) hb
  ·have : i = j := by omega
   subst this;have hend := half_end hh;by_cases hi : i < l.length
   ·have hi' : (i : Int) < (l.length : Int) := by omega
    have hg : (l.map DVal.str)[i]? = some (.str l[i]) := by rw [List.getElem?_map, List.getElem?_eq_getElem hi]; rfl
    rw [List.getElem?_eq_getElem hi] at hend;by_cases hw : l[i] = s
    ·simp (disch := omega) only [go_sem, e0, e1, e6, e7, e8, hi', hi, hg, hw];refine DFin.refl ⟨⟨i, ?_⟩, rfl⟩;rw [hend, hw]; simp
    ·simp (disch := omega) only [go_sem, e0, e1, e6, e7, e8, hi', hi, hg, hw];refine (isNaN2_spec G _ l[i]).mono ?_;rintro _ H1 ⟨rfl, rfl⟩;simp (disch := omega) only [go_sem, e0, e1, e6, e7, e8, hi', hi, hg, hw];refine DFin.refl ⟨⟨i, ?_⟩, rfl⟩;rw [hend]; simp [hw]
   ·have hi' : ¬ (i : Int) < (l.length : Int) := by omega
    rw [List.getElem?_eq_none (by omega)] at hend;simp (disch := omega) only [go_sem, e0, e1, e6, e7, e8, hi'];refine DFin.refl ⟨⟨i, ?_⟩, rfl⟩;rw [hend]; simp
theorem rune_low {s : List UInt8} {k : Nat} {c : UInt8} (h : s[k]? = some c) (hc : c.toNat < 128) : runeAt s k = (c.toNat, 1) := by
 obtain ⟨hk, rfl⟩ := List.getElem?_eq_some_iff.1 h;exact Go.decode_ascii ⟨⟨s⟩⟩ k hk hc
theorem rune_high {s : List UInt8} {k : Nat} {c : UInt8} (h : s[k]? = some c) (hc : 128 ≤ c.toNat) : 128 ≤ (runeAt s k).1 := by
 obtain ⟨hk, rfl⟩ := List.getElem?_eq_some_iff.1 h;exact (Go.decode_high ⟨⟨s⟩⟩ k hk hc).1
theorem high_word {c : UInt8} (h : 126 < c.toNat) : wordB c = false := by
 cases hw : wordB c with
 | false => rfl
 | true => have := (word_char hw).2; omega
set_option maxHeartbeats 1000000 in
theorem word_spec (G : Nat → DVal) (H : DHeap) (s : List UInt8) (hs : s.length ≤ 1000000000) : DCalls Tryz.prog G 172 [.str s] H (DRet (.str (wordL s)) H) := by
 refine dcalls_intro Tryz.func172 Tryz.call172 rfl (by kernel_rfl) ?_;simp (disch := omega) only [go_sem];intro r hr;obtain ⟨I, hI⟩ : ∃ I : Nat → (Nat → DVal) → DHeap → Prop, ∀ k env heap, I k env heap ↔ (env 0 = .str s ∧ env 6 = .optr r 0 ∧ (s.take k).all wordB = true ∧ k ≤ s.length ∧ heap = upd H r (some (.iter s k))) := ⟨_, fun _ _ _ => Iff.rfl⟩;refine DLoop.run I (fun k => s.length - k) 0 ((hI _ _ _).2 ?_) ?_
 ·simp (disch := omega) only [go_sem]
 ·intro k env heap hi;obtain ⟨e0, e6, hw, hk, rfl⟩ := (hI _ _ _).1 hi;by_cases hlt : k < s.length
  ·have hg : s[k]? = some s[k] := List.getElem?_eq_getElem hlt;have hend : wordB s[k] = false → wordL s = s.take k := fun h => word_at hw hg h;have hstep : wordB s[k] = true → (s.take (k + 1)).all wordB = true := fun h => by
    rw [List.take_add_one, hg, List.all_append, hw]; simpa using h
   have hki : (k : Int) ≤ (s.length : Int) := by omega
   by_cases h126 : s[k].toNat ≤ 126
   ·have hrn := rune_low hg (by omega);have h126' : ¬ (126 : Int) < (s[k].toNat : Int) := by omega
    have hwr : IntKind.u8.wrap (s[k].toNat : Int) = (s[k].toNat : Int) := by rw [IntKind.wrap_u8]; have := s[k].toNat_lt; omega
    simp (disch := omega) only [go_sem, e0, e6, hlt, hrn, h126', hwr];refine (letter_spec G _ s[k]).mono ?_;rintro _ H1 ⟨rfl, rfl⟩;cases hle : letterB s[k] with
    | true =>
     simp (disch := omega) only [go_sem, e0, e6, hlt, hrn, h126', hwr];refine ⟨k + 1, _, GhostS.refl _, (hI _ _ _).2 ?_, by omega⟩;simp (disch := omega) only [go_sem, e0, e6];(repeat' apply And.intro) <;> (try first | rfl | assumption | omega);exact hstep (letter_word hle)
    | false =>
     simp (disch := omega) only [go_sem, e0, e6, hlt, hrn, h126', hwr];refine (digit_spec G _ s[k]).mono ?_;rintro _ H1 ⟨rfl, rfl⟩;cases hdi : digitB s[k] with
     | true =>
      simp (disch := omega) only [go_sem, e0, e6, hlt, hrn, h126', hwr];refine ⟨k + 1, _, GhostS.refl _, (hI _ _ _).2 ?_, by omega⟩;simp (disch := omega) only [go_sem, e0, e6];(repeat' apply And.intro) <;> (try first | rfl | assumption | omega);exact hstep (digit_word hdi)
     | false =>
      by_cases h95 : s[k] = 95
      ·have h95' : (s[k].toNat : Int) = 95 := by rw [h95]; rfl
       simp (disch := omega) only [go_sem, e0, e6, hlt, hrn, h126', hwr, h95'];refine ⟨k + 1, _, GhostS.refl _, (hI _ _ _).2 ?_, by omega⟩;simp (disch := omega) only [go_sem, e0, e6];(repeat' apply And.intro) <;> (try first | rfl | assumption | omega);exact hstep (by rw [h95]; rfl)
      ·have h95' : ¬ (s[k].toNat : Int) = 95 := toNat_ne (d := 95) h95;simp (disch := omega) only [go_sem, e0, e6, hlt, hrn, h126', hwr, h95', hki];refine DFin.dropA r hr (DFin.refl ⟨?_, rfl⟩);rw [hend (by simp [wordB, hle, hdi, h95])];simp
   ·have hlo : 126 < ((runeAt s k).1 : Int) := by
     by_cases h128 : s[k].toNat < 128
     ·rw [rune_low hg h128]; dsimp only; omega
     ·have := rune_high hg (by omega); omega
    simp (disch := omega) only [go_sem, e0, e6, hlt, hlo, hki];refine DFin.dropA r hr (DFin.refl ⟨?_, rfl⟩);rw [hend (high_word (by omega))];simp
  ·have : k = s.length := by omega
   subst this;simp (disch := omega) only [go_sem, e0, e6, hlt];refine DFin.dropA r hr (DFin.refl ⟨?_, rfl⟩);rw [List.take_length] at hw;rw [word_all.2 hw]
end
section
variable {G : Nat → DVal} {H : DHeap}
def keysLit : List UInt8 := [97, 98, 111, 114, 116, 32, 97, 98, 115, 32, 97, 99, 99, 101, 112, 116, 32, 97, 99, 99, 101, 115, 115, 32, 97, 108, 105, 97, 115, 101, 100, 32, 97, 108, 108, 32, 97, 110, 100, 32, 97, 114, 114, 97, 121, 32, 98, 101, 103, 105, 110, 32, 98, 111, 100, 121, 32, 99, 97, 115, 101, 32, 99, 111, 110, 115, 116, 97, 110, 116, 32, 100, 101, 99, 108, 97, 114, 101, 32, 100, 101, 108, 97, 121, 32, 100, 111, 32, 101, 108, 115, 101, 32, 101, 108, 115, 105, 102, 32, 101, 110, 100, 32, 101, 110, 116, 114, 121, 32, 101, 120, 99, 101, 112, 116, 105, 111, 110, 32, 101, 120, 105, 116, 32, 102, 111, 114, 32, 102, 117, 110, 99, 116, 105, 111, 110, 32, 103, 101, 110, 101, 114, 105, 99, 32, 105, 102, 32, 105, 110, 32, 105, 115, 32, 108, 105, 109, 105, 116, 101, 100, 32, 108, 111, 111, 112, 32, 109, 111, 100, 32, 110, 101, 119, 32, 110, 111, 116, 32, 110, 117, 108, 108, 32, 111, 102, 32, 111, 114, 32, 111, 116, 104, 101, 114, 115, 32, 111, 117, 116, 32, 112, 97, 99, 107, 97, 103, 101, 32, 112, 114, 97, 103, 109, 97, 32, 112, 114, 105, 118, 97, 116, 101, 32, 112, 114, 111, 99, 101, 100, 117, 114, 101, 32, 112, 114, 111, 116, 101, 99, 116, 101, 100, 32, 114, 97, 105, 115, 101, 32, 114, 97, 110, 103, 101, 32, 114, 101, 99, 111, 114, 100, 32, 114, 101, 109, 32, 114, 101, 110, 97, 109, 101, 115, 32, 114, 101, 113, 117, 101, 117, 101, 32, 114, 101, 116, 117, 114, 110, 32, 114, 101, 118, 101, 114, 115, 101, 32, 115, 101, 108, 101, 99, 116, 32, 115, 101, 112, 97, 114, 97, 116, 101, 32, 115, 117, 98, 116, 121, 112, 101, 32, 116, 97, 115, 107, 32, 116, 101, 114, 109, 105, 110, 97, 116, 101, 32, 116, 104, 101, 110, 32, 116, 121, 112, 101, 32, 117, 110, 116, 105, 108, 32, 117, 115, 101, 32, 119, 104, 101, 110, 32, 119, 104, 105, 108, 101, 32, 119, 105, 116, 104, 32, 120, 111, 114]
theorem keysLit_low : ∀ b ∈ keysLit, b.toNat < 128 := by decide +kernel
theorem fields_lit : Lib.fields keysLit = keysL := by kernel_rfl
theorem keys_spec (hG : GX G) (H : DHeap) : DCalls Tryz.prog G 187 [] H (DRet (dStrs keysL) H) := by
 refine dcalls_intro Tryz.func187 Tryz.call187 rfl (by kernel_rfl) ?_;simp (disch := omega) only [go_sem];show DCalls _ _ _ [.str keysLit] _ _;refine (flds_spec hG.space keysLit (by decide +kernel) (fun j b h => keysLit_low b (List.mem_of_getElem? h))).mono ?_;rintro _ H1 ⟨rfl, rfl⟩;rw [fields_lit];simp (disch := omega) only [go_sem];exact DFin.refl ⟨rfl, rfl⟩
theorem key_spec (hG : GX G) (H : DHeap) (s : List UInt8) : DCalls Tryz.prog G 163 [.str s] H (DRet (.bool (keyB s)) H) := by
 refine dcalls_intro Tryz.func163 Tryz.call163 rfl (by kernel_rfl) ?_;simp (disch := omega) only [go_sem];refine (keys_spec hG _).mono ?_;rintro _ H1 ⟨rfl, rfl⟩;simp (disch := omega) only [go_sem];refine (search_spec G _ keysL s keys_sorted (by decide)).mono ?_;rintro _ H2 ⟨⟨i, rfl⟩, rfl⟩;simp (disch := omega) only [go_sem];exact DFin.refl ⟨rfl, rfl⟩
theorem name_spec2 (hG : GX G) (H : DHeap) (s : List UInt8) (hs : s.length ≤ 9223372036854775807) : DCalls Tryz.prog G 114 [.str s] H (DRet (.bool (nameB s)) H) := by
 refine dcalls_intro Tryz.func114 Tryz.call114 rfl (by kernel_rfl) ?_
 match s with
 | [] =>
  simp (disch := omega) only [go_sem]
  exact DFin.refl ⟨rfl, rfl⟩
 | c :: r =>
  have hne : ¬ (c :: r = []) := by simp
  have h0 : (c :: r)[0]? = some c := rfl
  rw [name_eq]
  by_cases hl : (c :: r).length ≤ 32
  ·have hl' : ((c :: r).length : Int) ≤ 32 := by omega
   simp (disch := omega) only [go_sem, hne, hl', h0]
   refine (letter_spec G _ c).mono ?_
   rintro _ H1 ⟨rfl, rfl⟩
   cases hle : letterB c with
   | false =>
    simp (disch := omega) only [go_sem, hne, hl', h0]
    exact DFin.refl ⟨by simp, rfl⟩
   | true =>
    simp (disch := omega) only [go_sem, hne, hl', h0]
    refine (word_spec G _ (c :: r) (by omega)).mono ?_
    rintro _ H1 ⟨rfl, rfl⟩
    by_cases hw : wordL (c :: r) = c :: r
    ·simp (disch := omega) only [go_sem, hne, hl', h0, hw]
     refine (key_spec hG _ (c :: r)).mono ?_
     rintro _ H1 ⟨rfl, rfl⟩
     simp (disch := omega) only [go_sem, hne, hl', h0, hw]
     exact DFin.refl ⟨by first | rfl | (rw [List.length_cons] at hl; simp [hw]; intro _; omega), rfl⟩
    ·simp (disch := omega) only [go_sem, hne, hl', h0, hw]
     exact DFin.refl ⟨by first | rfl | simp [hw], rfl⟩
  ·have hl' : ¬ ((c :: r).length : Int) ≤ 32 := by omega
   simp (disch := omega) only [go_sem, hne, hl', h0]
   exact DFin.refl ⟨by first | rfl | (rw [List.length_cons] at hl; simp; intro h; omega), rfl⟩
theorem symN_cons (a : UInt8) (r : List UInt8) (h : ∀ b r', r = b :: r' → (a, b) ∉ syms2) : symN (a :: r) = if a ∈ syms1 then 1 else 0 := by
 match r with
 | [] => rfl
 | b :: r' => simp only [symN, if_neg (h b r' rfl)]
end
end Go.Dl

-- The reference of chapter 2: names, tokens that are the same; slices of tokens.
namespace Go.Dl
open Go Go.Proofs Go.RowKit
set_option maxRecDepth 100000
def dTok (t : Tok) : List DVal := [.int .u8 t.kind, dI t.line, .str t.text, dI t.n]
theorem dTok_len (t : Tok) : (dTok t).length = 4 := rfl
theorem dTok_t4 (t : Tok) : (dTok t).take 4 = dTok t := rfl
theorem dTok_d4 (t : Tok) : (dTok t).drop 4 = [] := rfl
theorem dTok_one (t : Tok) : (dTok t).all (fun d => d.one) = true := rfl
section
variable {G : Nat → DVal} {H : DHeap}
theorem first_cons (c : UInt8) (r : List UInt8) : firstT (c :: r) = if letterB c then (if keyB (wordL (c :: r)) then (⟨2, 0, wordL (c :: r), 0⟩, (wordL (c :: r)).length) else if nameB (wordL (c :: r)) then (⟨1, 0, wordL (c :: r), 0⟩, (wordL (c :: r)).length) else (tok0, 0))
  else if digitB c then (match intV (wordL (c :: r)) with | some v => (⟨3, 0, [], v⟩, (wordL (c :: r)).length) | none => (tok0, 0)) else (⟨4, 0, (c :: r).take (symN (c :: r)), 0⟩, symN (c :: r)) := rfl
def dFirst (p : Tok × Nat) : DVal := .tuple [.agg (dTok p.1), dI p.2]
end
def dToks (l : List Tok) : DVal := .vslice (l.flatMap dTok) l.length
section
end
def sameT (a b : Tok) : Bool := decide ({ a with line := b.line } = b)
def sameL : List Tok → List Tok → Bool
 | [], [] => true
 | a :: l, b :: m => sameT a b && sameL l m
 | _, _ => false
section
variable {G : Nat → DVal} {H : DHeap}
theorem sameL_len : ∀ (l m : List Tok), sameL l m = true → l.length = m.length
 | [], [], _ => rfl
 | [], _ :: _, h => by cases h
 | _ :: _, [], h => by cases h
 | a :: l, b :: m, h => by
  rw [sameL, Bool.and_eq_true] at h;rw [List.length_cons, List.length_cons, sameL_len l m h.2]
theorem sameL_step : ∀ {l m : List Tok} {k : Nat} (h1 : k < l.length) (h2 : k < m.length), sameL (l.drop k) (m.drop k) = (sameT l[k] m[k] && sameL (l.drop (k + 1)) (m.drop (k + 1))) := fun h1 h2 => by
 rw [List.drop_eq_getElem_cons h1, List.drop_eq_getElem_cons h2, sameL]
end
theorem GhostE.sub1' {H H' : DHeap} {v v' : DVal} (h : GhostE H v H' v') {pre post : List DVal} (hp : loose.looses pre = true) (hq : loose.looses post = true) (w : World) (hw : SimHeap w H) : ∀ xs, RelL w H (pre ++ v :: post) xs → RelL w H' (pre ++ v' :: post) xs := by
 intro xs hx;have e : xs = xs.take pre.length ++ xs.drop pre.length := (List.take_append_drop _ _).symm;have h1 := hx.take pre.length;have h2 := hx.drop pre.length;rw [List.take_left] at h1;rw [List.drop_left] at h2;rw [e];refine (looses_rel _ _ hp h1).append ?_;simp only [RelL] at h2 ⊢
 obtain ⟨y, ys, h3, h4, h5⟩ := h2;rw [h3];exact ⟨y, ys, rfl, (h w hw).2.2 y h4, looses_rel _ _ hq h5⟩
theorem GhostE.tuple1' {H H' : DHeap} {v v' : DVal} (h : GhostE H v H' v') {pre post : List DVal} (hp : loose.looses pre = true) (hq : loose.looses post = true) : GhostE H (.tuple (pre ++ v :: post)) H' (.tuple (pre ++ v' :: post)) := fun w hw =>
 ⟨(h w hw).1, (h w hw).2.1, fun x hx => by
  simp only [Rel] at hx ⊢
  obtain ⟨xs, rfl, hl⟩ := hx;exact ⟨xs, rfl, h.sub1' hp hq w hw _ hl⟩⟩
theorem OwnJ.dLen {H H' : DHeap} {e t : TypeId} {size n : Nat} {cs : List DVal} {v : DVal} (h : OwnJ H e size n cs v H') {dst : Option Nat} {K : DK} {s : DS} : Dl.dLen dst (some (.slice t)) v K s = dput dst (dI n) K s := by
 rcases h with ⟨rfl, _, rfl, _⟩ | ⟨r, _, _, rfl, _, _⟩
 ·rfl
 ·rfl
section
variable {G : Nat → DVal} {H : DHeap}
theorem dToks_nil {H' : DHeap} (h : Sub H H') (ds : List DVal) (hd : loose.looses ds = true) : GhostE H' (.tuple (.nilSlice :: ds)) H (.tuple (dToks [] :: ds)) :=
 (GhostE.sub h _).trans (GhostE.tuple1' (pre := []) (OwnJ.nil 52 4 (Sub.refl H)).ghost rfl hd)
end
section
variable {G : Nat → DVal} {H : DHeap}
theorem rletter_spec (G : Nat → DVal) (H : DHeap) (b : UInt8) : DCalls Tryz.prog G 179 [.int .u8 b.toNat] H (DRet (.bool (letterB b)) H) := by
 refine dcalls_intro Tryz.func179 Tryz.call179 rfl (by kernel_rfl) ?_;have hd : letterB b = (decide ((65 : Int) ≤ b.toNat) && decide ((b.toNat : Int) ≤ 90) || decide ((97 : Int) ≤ b.toNat) && decide ((b.toNat : Int) ≤ 122)) := by
  rw [letterB, decide_eq_decide.2 (show 65 ≤ b.toNat ↔ (65 : Int) ≤ b.toNat by omega), decide_eq_decide.2 (show b.toNat ≤ 90 ↔ (b.toNat : Int) ≤ 90 by omega), decide_eq_decide.2 (show 97 ≤ b.toNat ↔ (97 : Int) ≤ b.toNat by omega), decide_eq_decide.2 (show b.toNat ≤ 122 ↔ (b.toNat : Int) ≤ 122 by omega)]
 rw [hd];generalize (b.toNat : Int) = n;by_cases h1 : 65 ≤ n
 ·by_cases h2 : n ≤ 90
  ·simp (disch := omega) only [go_sem, h1, h2];exact DFin.refl ⟨by simp, rfl⟩
  ·by_cases h3 : 97 ≤ n
   ·simp (disch := omega) only [go_sem, h1, h2, h3];exact DFin.refl ⟨by simp, rfl⟩
   ·simp (disch := omega) only [go_sem, h1, h2, h3];exact DFin.refl ⟨by simp, rfl⟩
 ·have h3 : ¬ 97 ≤ n := by omega
  simp (disch := omega) only [go_sem, h1, h3];exact DFin.refl ⟨by simp, rfl⟩
theorem rdigit_spec (G : Nat → DVal) (H : DHeap) (b : UInt8) : DCalls Tryz.prog G 181 [.int .u8 b.toNat] H (DRet (.bool (digitB b)) H) := by
 refine dcalls_intro Tryz.func181 Tryz.call181 rfl (by kernel_rfl) ?_;by_cases h1 : 48 ≤ b.toNat
 ·have h1' : (48 : Int) ≤ (b.toNat : Int) := by omega
  simp (disch := omega) only [go_sem, h1'];refine DFin.refl ⟨?_, rfl⟩;rw [digitB, decide_eq_decide.2 (show (b.toNat : Int) ≤ 57 ↔ b.toNat ≤ 57 by omega), decide_eq_true h1, Bool.true_and]
 ·have h1' : ¬ (48 : Int) ≤ (b.toNat : Int) := by omega
  simp (disch := omega) only [go_sem, h1'];refine DFin.refl ⟨?_, rfl⟩;rw [digitB, decide_eq_false h1]; rfl
theorem rword_spec (G : Nat → DVal) (H : DHeap) (b : UInt8) : DCalls Tryz.prog G 188 [.int .u8 b.toNat] H (DRet (.bool (wordB b)) H) := by
 refine dcalls_intro Tryz.func188 Tryz.call188 rfl (by kernel_rfl) ?_;simp (disch := omega) only [go_sem];refine (rletter_spec G _ b).mono ?_;rintro _ H1 ⟨rfl, rfl⟩;cases hl : letterB b with
 | true =>
  simp (disch := omega) only [go_sem];exact DFin.refl ⟨by rw [wordB, hl]; rfl, rfl⟩
 | false =>
  simp (disch := omega) only [go_sem];refine (rdigit_spec G _ b).mono ?_;rintro _ H1 ⟨rfl, rfl⟩;cases hd : digitB b with
  | true =>
   simp (disch := omega) only [go_sem];exact DFin.refl ⟨by rw [wordB, hl, hd]; rfl, rfl⟩
  | false =>
   by_cases h95 : b = 95
   ·subst h95;simp (disch := omega) only [go_sem];exact DFin.refl ⟨rfl, rfl⟩
   ·have h95' : ¬ (b.toNat : Int) = 95 := toNat_ne (d := 95) h95;simp (disch := omega) only [go_sem, h95'];exact DFin.refl ⟨by rw [wordB, hl, hd, decide_eq_false h95]; rfl, rfl⟩
theorem in_spec (G : Nat → DVal) (H : DHeap) (l : List (List UInt8)) (s : List UInt8) (hl : l.length ≤ 1000000) : DCalls Tryz.prog G 194 [dStrs l, .str s] H (DRet (.bool (decide (s ∈ l))) H) := by
 refine dcalls_intro Tryz.func194 Tryz.call194 rfl (by kernel_rfl) ?_;simp (disch := omega) only [go_sem, dStrs];obtain ⟨I, hI⟩ : ∃ I : Nat → (Nat → DVal) → DHeap → Prop, ∀ k env heap, I k env heap ↔ (env 0 = .vslice (l.map .str) l.length ∧ env 1 = .str s ∧ env 5 = dI k ∧ k ≤ l.length ∧ (∀ x ∈ l.take k, x ≠ s) ∧ heap = H) := ⟨_, fun _ _ _ => Iff.rfl⟩;refine DLoop.run I (fun k => l.length - k) 0 ((hI _ _ _).2 ?_) ?_
 ·simp (disch := omega) only [go_sem];(repeat' apply And.intro) <;> (try first | rfl | assumption | omega);intro x hx; simp at hx
 ·intro k env heap hi;obtain ⟨e0, e1, e5, hk, hn, rfl⟩ := (hI _ _ _).1 hi;by_cases hlt : k < l.length
  ·have hlt' : (k : Int) < (l.length : Int) := by omega
   have hg : (l.map DVal.str)[k]? = some (.str l[k]) := by rw [List.getElem?_map, List.getElem?_eq_getElem hlt]; rfl
   by_cases hw : l[k] = s
   ·simp (disch := omega) only [go_sem, e0, e1, e5, hlt', hlt, hg, hw, Int.toNat_natCast];exact DFin.refl ⟨by rw [decide_eq_true (by rw [← hw]; exact List.getElem_mem hlt)], rfl⟩
   ·have hwd : IntKind.i64.wrap ((k : Int) + 1) = ((k + 1 : Nat) : Int) := by rw [IntKind.wrap_i64]; omega
    simp (disch := omega) only [go_sem, e0, e1, e5, hlt', hlt, hg, hw, Int.toNat_natCast];refine ⟨k + 1, _, GhostS.refl _, (hI _ _ _).2 ?_, by omega⟩;simp (disch := omega) only [go_sem, e0, e1, e5, hwd];(repeat' apply And.intro) <;> (try first | rfl | assumption | omega);exact take_next (p := fun x => x ≠ s) hlt hn hw
  ·have : k = l.length := by omega
   subst this;simp (disch := omega) only [go_sem, e0, e1, e5];rw [List.take_length] at hn;exact DFin.refl ⟨by rw [decide_eq_false (fun h => hn s h rfl)], rfl⟩
def symsL : List (List UInt8) := [[61, 62], [46, 46], [58, 61], [47, 61], [60, 61], [62, 61], [60, 62], [40], [41], [44], [59], [58], [46], [39], [43], [45], [42], [47], [61], [60], [62], [124]]
theorem rkeys_spec (G : Nat → DVal) (H : DHeap) : DCalls Tryz.prog G 195 [] H (DRet (dStrs keysL) H) := by
 refine dcalls_intro Tryz.func195 Tryz.call195 rfl (by kernel_rfl) ?_;simp (disch := omega) only [go_sem];change dNewSO _ _ _ _ (some (keysL.map .str)) _ _;simp (disch := omega) only [go_sem];intro r hr; dsimp only at hr;simp (disch := omega) only [go_sem];refine DFin.fzA r hr ?_;simp only [fz, if_pos, List.drop_zero];refine DFin.refl ⟨?_, rfl⟩;rfl
theorem rsyms_spec (G : Nat → DVal) (H : DHeap) : DCalls Tryz.prog G 196 [] H (DRet (dStrs symsL) H) := by
 refine dcalls_intro Tryz.func196 Tryz.call196 rfl (by kernel_rfl) ?_;simp (disch := omega) only [go_sem];change dNewSO _ _ _ _ (some (symsL.map .str)) _ _;simp (disch := omega) only [go_sem];intro r hr; dsimp only at hr;simp (disch := omega) only [go_sem];refine DFin.fzA r hr ?_;simp only [fz, if_pos, List.drop_zero];refine DFin.refl ⟨?_, rfl⟩;rfl
theorem rkey_spec (G : Nat → DVal) (H : DHeap) (s : List UInt8) : DCalls Tryz.prog G 180 [.str s] H (DRet (.bool (keyB s)) H) := by
 refine dcalls_intro Tryz.func180 Tryz.call180 rfl (by kernel_rfl) ?_;simp (disch := omega) only [go_sem];refine (rkeys_spec G _).mono ?_;rintro _ H1 ⟨rfl, rfl⟩;simp (disch := omega) only [go_sem];refine (in_spec G _ keysL s (by decide)).mono ?_;rintro _ H1 ⟨rfl, rfl⟩;simp (disch := omega) only [go_sem];exact DFin.refl ⟨rfl, rfl⟩
end
section
variable {G : Nat → DVal} {H : DHeap}
theorem rname_spec (G : Nat → DVal) (H : DHeap) (s : List UInt8) : DCalls Tryz.prog G 166 [.str s] H (DRet (.bool (nameB s)) H) := by
 refine dcalls_intro Tryz.func166 Tryz.call166 rfl (by kernel_rfl) ?_
 match s with
 | [] =>
  simp (disch := omega) only [go_sem, List.length_nil]
  exact DFin.refl ⟨rfl, rfl⟩
 | c :: r =>
  obtain ⟨s, hs⟩ : ∃ s, s = c :: r := ⟨_, rfl⟩
  have h0 : s[0]? = some c := by rw [hs]; rfl
  have hpos : 0 < s.length := by rw [hs]; simp
  have hdef : nameB s = (letterB c && decide (s.length ≤ 32) && s.all wordB && !keyB s) := by rw [hs]; rfl
  rw [← hs, hdef]
  have h1 : ¬ (s.length : Int) < 1 := by omega
  by_cases hl : s.length ≤ 32
  ·have hl' : ¬ (32 : Int) < (s.length : Int) := by omega
   simp (disch := omega) only [go_sem, h1, hl', h0]
   refine (rletter_spec G _ c).mono ?_
   rintro _ H1 ⟨rfl, rfl⟩
   cases hle : letterB c with
   | false =>
    simp (disch := omega) only [go_sem]
    exact DFin.refl ⟨rfl, rfl⟩
   | true =>
    simp (disch := omega) only [go_sem]
    refine (rkey_spec G _ s).mono ?_
    rintro _ H1 ⟨rfl, rfl⟩
    cases hk : keyB s with
    | true =>
     simp (disch := omega) only [go_sem]
     exact DFin.refl ⟨by simp, rfl⟩
    | false =>
     simp (disch := omega) only [go_sem]
     obtain ⟨I, hI⟩ : ∃ I : Nat → (Nat → DVal) → DHeap → Prop, ∀ k env heap, I k env heap ↔ (env 0 = .str s ∧ env 3 = dI k ∧ k ≤ s.length ∧ (s.take k).all wordB = true ∧ heap = H1) := ⟨_, fun _ _ _ => Iff.rfl⟩
     refine DLoop.run I (fun k => s.length - k) 0 ((hI _ _ _).2 ?_) ?_
     ·simp (disch := omega) only [go_sem]
      (repeat' apply And.intro) <;> (try first | rfl | assumption | omega)
     ·intro k env heap hi
      obtain ⟨e0, e3, hk2, hw, rfl⟩ := (hI _ _ _).1 hi
      by_cases hlt : k < s.length
      ·have hlt' : (k : Int) < (s.length : Int) := by omega
       have hg : s[k]? = some s[k] := List.getElem?_eq_getElem hlt
       have hwd : IntKind.i64.wrap ((k : Int) + 1) = ((k + 1 : Nat) : Int) := by rw [IntKind.wrap_i64]; omega
       simp (disch := omega) only [go_sem, e0, e3, hlt', hg, Int.toNat_natCast]
       refine (rword_spec G _ s[k]).mono ?_
       rintro _ H2 ⟨rfl, rfl⟩
       cases hb : wordB s[k] with
       | true =>
        simp (disch := omega) only [go_sem, e0, e3]
        refine ⟨k + 1, _, GhostS.refl _, (hI _ _ _).2 ?_, by omega⟩
        simp (disch := omega) only [go_sem, e0, e3, hwd]
        (repeat' apply And.intro) <;> (try first | rfl | assumption | omega)
        rw [List.take_add_one, hg, List.all_append, hw]; simpa using hb
       | false =>
        simp (disch := omega) only [go_sem, e0, e3]
        have : s.all wordB = false := by
         rw [List.all_eq_false]; exact ⟨s[k], List.getElem_mem hlt, by rw [hb]; simp⟩
        exact DFin.refl ⟨by rw [this], rfl⟩
      ·have : k = s.length := by omega
       subst this
       simp (disch := omega) only [go_sem, e0, e3]
       rw [List.take_length] at hw
       exact DFin.refl ⟨by rw [hw], rfl⟩
  ·have hl' : (32 : Int) < (s.length : Int) := by omega
   simp (disch := omega) only [go_sem, h1, hl', h0]
   exact DFin.refl ⟨by simp, rfl⟩
end
theorem sameT_eq (a b : Tok) : sameT a b = (decide (a.kind = b.kind) && (decide (a.text = b.text) && decide (a.n = b.n))) := by
 rw [sameT]; cases a; cases b;simp only [Tok.mk.injEq, Bool.decide_and, decide_true, Bool.true_and]
theorem sameL_false {l m : List Tok} (h : l.length ≠ m.length) : sameL l m = false := by
 cases e : sameL l m with
 | false => rfl
 | true => exact absurd (sameL_len l m e) h
section
variable {G : Nat → DVal} {H : DHeap}
theorem rsame_spec (G : Nat → DVal) (H : DHeap) (l m : List Tok) (hl : l.length ≤ 1000000000) : DCalls Tryz.prog G 61 [dToks l, dToks m] H (DRet (.bool (sameL l m)) H) := by
 refine dcalls_intro Tryz.func61 Tryz.call61 rfl (by kernel_rfl) ?_;by_cases hlen : l.length = m.length
 ·have hlen' : (l.length : Int) = (m.length : Int) := by omega
  simp (disch := omega) only [go_sem, dToks, hlen'];obtain ⟨I, hI⟩ : ∃ I : Nat → (Nat → DVal) → DHeap → Prop, ∀ k env heap, I k env heap ↔ (env 0 = .vslice (l.flatMap dTok) l.length ∧ env 1 = .vslice (m.flatMap dTok) m.length ∧ env 5 = dI k ∧ k ≤ l.length ∧ sameL l m = sameL (l.drop k) (m.drop k) ∧ heap = H) := ⟨_, fun _ _ _ => Iff.rfl⟩;refine DLoop.run I (fun k => l.length - k) 0 ((hI _ _ _).2 ?_) ?_
  ·simp (disch := omega) only [go_sem];(repeat' apply And.intro) <;> (try first | rfl | assumption | omega)
  ·intro k env heap hi;obtain ⟨e0, e1, e5, hk, hsm, rfl⟩ := (hI _ _ _).1 hi;have hfl := flat_len dTok_len l;have hfm := flat_len dTok_len m;by_cases hlt : k < l.length
   ·have hlt' : (k : Int) < (m.length : Int) := by omega
    have hlt2 : (k : Int) < (l.length : Int) := by omega
    have hkm : k < m.length := by omega
    have g0 : (l.flatMap dTok)[k * 4]? = some (.int .u8 l[k].kind) := flat_get dTok_len l k hlt 0 (by omega);have g2 : (l.flatMap dTok)[k * 4 + 2]? = some (.str l[k].text) := flat_get dTok_len l k hlt 2 (by omega);have g3 : (l.flatMap dTok)[k * 4 + 3]? = some (dI l[k].n) := flat_get dTok_len l k hlt 3 (by omega);have m0 : (m.flatMap dTok)[k * 4]? = some (.int .u8 m[k].kind) := flat_get dTok_len m k hkm 0 (by omega);have m2 : (m.flatMap dTok)[k * 4 + 2]? = some (.str m[k].text) := flat_get dTok_len m k hkm 2 (by omega);have m3 : (m.flatMap dTok)[k * 4 + 3]? = some (dI m[k].n) := flat_get dTok_len m k hkm 3 (by omega);have hwd : IntKind.i64.wrap ((k : Int) + 1) = ((k + 1 : Nat) : Int) := by rw [IntKind.wrap_i64]; omega
    have hst := sameL_step hlt hkm;rw [hst, sameT_eq] at hsm;simp (disch := omega) only [go_sem, e0, e1, e5, hlt', hlt2, hfl, hfm, Int.toNat_natCast];refine dwp_draws (by kernel_rfl) (.take 0 (.take 1 (.take 2 (.take 3 (.take 4 (.take 5 (.take 6 (.take 7 (.take 8 (.take 9 (.take 10 (.take 11 (.take 12 (.take 13 (.take 14 (.take 15 (.take 16 (.take 17 (.take 18 (.take 19 (.take 20 (.take 21 (.take 22 (.take 23 (.take 24 (.take 25 (.take 26 (.take 27 (.take 28 (.take 29 (.take 30 (.take 31 (.take 32 (.take 33 (.take 34 (.take 35 (.take 36 .done))))))))))))))))))))))))))))))))))))) (by kernel_rfl) ?_;by_cases h1 : l[k].kind = m[k].kind
    ·by_cases h2 : l[k].text = m[k].text
     ·by_cases h3 : l[k].n = m[k].n
      ·rw [decide_eq_true h1, decide_eq_true h2, decide_eq_true h3, Bool.true_and, Bool.true_and, Bool.true_and] at hsm;simp (disch := omega) only [go_sem, e0, e1, e5, hlt', hlt2, hfl, hfm, Int.toNat_natCast, g0, g2, g3, m0, m2, m3, h1, h2, h3];refine ⟨k + 1, _, GhostS.refl _, (hI _ _ _).2 ?_, by omega⟩;simp (disch := omega) only [go_sem, e0, e1, e5, hwd];(repeat' apply And.intro) <;> (try first | rfl | assumption | omega)
      ·rw [decide_eq_false h3, Bool.and_false, Bool.and_false, Bool.false_and] at hsm;simp (disch := omega) only [go_sem, e0, e1, e5, hlt', hlt2, hfl, hfm, Int.toNat_natCast, g0, g2, g3, m0, m2, m3, h1, h2, h3];exact DFin.refl ⟨by rw [hsm], rfl⟩
     ·rw [decide_eq_false h2, Bool.false_and, Bool.and_false, Bool.false_and] at hsm;simp (disch := omega) only [go_sem, e0, e1, e5, hlt', hlt2, hfl, hfm, Int.toNat_natCast, g0, g2, g3, m0, m2, m3, h1, h2];exact DFin.refl ⟨by rw [hsm], rfl⟩
    ·rw [decide_eq_false h1, Bool.false_and, Bool.false_and] at hsm;simp (disch := omega) only [go_sem, e0, e1, e5, hlt', hlt2, hfl, hfm, Int.toNat_natCast, g0, g2, g3, m0, m2, m3, h1];exact DFin.refl ⟨by rw [hsm], rfl⟩
   ·have : k = l.length := by omega
    subst this;have hlt' : ¬ (l.length : Int) < (m.length : Int) := by omega
    simp (disch := omega) only [go_sem, e0, e1, e5, hlt'];refine DFin.refl ⟨?_, rfl⟩;rw [hsm, List.drop_length, hlen, List.drop_length]; rfl
 ·have hlen' : ¬ (l.length : Int) = (m.length : Int) := by omega
  simp (disch := omega) only [go_sem, dToks, hlen'];exact DFin.refl ⟨by rw [sameL_false hlen], rfl⟩
end
end Go.Dl

-- Chapter 3: expressions: the plain laws, part 1: trees.
namespace Go.Dl
open Go
set_option maxRecDepth 10000
mutual
inductive Ex where
 | mk (kind oper n : Int) (s : List UInt8) (l : List Ex) (a : List As) (line ent t : Int)
inductive As where
 | mk (c : List Ch) (e : Ex)
inductive Ch where
 | mk (kind : Int) (l : List Ex)
end
def Ex.kind : Ex → Int | .mk k _ _ _ _ _ _ _ _ => k
def Ex.oper : Ex → Int | .mk _ o _ _ _ _ _ _ _ => o
def Ex.n : Ex → Int | .mk _ _ n _ _ _ _ _ _ => n
def Ex.s : Ex → List UInt8 | .mk _ _ _ s _ _ _ _ _ => s
def Ex.l : Ex → List Ex | .mk _ _ _ _ l _ _ _ _ => l
def Ex.a : Ex → List As | .mk _ _ _ _ _ a _ _ _ => a
def Ex.line : Ex → Int | .mk _ _ _ _ _ _ li _ _ => li
def Ex.ent : Ex → Int | .mk _ _ _ _ _ _ _ en _ => en
def Ex.t : Ex → Int | .mk _ _ _ _ _ _ _ _ t => t
def As.c : As → List Ch | .mk c _ => c
def As.e : As → Ex | .mk _ e => e
def Ch.kind : Ch → Int | .mk k _ => k
def Ch.l : Ch → List Ex | .mk _ l => l
def ex0 : Ex := .mk 0 0 0 [] [] [] 0 0 0
instance : Inhabited Ex := ⟨ex0⟩
instance : Inhabited As := ⟨.mk [] ex0⟩
instance : Inhabited Ch := ⟨.mk 0 []⟩
mutual
def sizeE : Ex → Nat
 | .mk _ _ _ _ l a _ _ _ => 1 + sizeL l + sizeAs a
def sizeL : List Ex → Nat
 | [] => 0
 | x :: l => sizeE x + sizeL l
def sizeA : As → Nat
 | .mk c e => sizeCs c + sizeE e
def sizeAs : List As → Nat
 | [] => 0
 | x :: l => sizeA x + sizeAs l
def sizeC : Ch → Nat
 | .mk _ l => sizeL l
def sizeCs : List Ch → Nat
 | [] => 0
 | x :: l => sizeC x + sizeCs l
end
def partsA (x : As) : List Ex := x.c.flatMap Ch.l ++ [x.e]
def parts (e : Ex) : List Ex := e.l ++ e.a.flatMap partsA
def sumE (l : List Ex) : Nat := (l.map sizeE).sum
theorem sizeL_sum : ∀ l : List Ex, sizeL l = sumE l
 | [] => rfl
 | x :: l => by rw [sizeL, sizeL_sum l, sumE, sumE, List.map_cons, List.sum_cons]
theorem sumE_append (l m : List Ex) : sumE (l ++ m) = sumE l + sumE m := by simp [sumE]
theorem sizeCs_sum : ∀ l : List Ch, sizeCs l = sumE (l.flatMap Ch.l)
 | [] => rfl
 | .mk k x :: l => by rw [sizeCs, sizeC, sizeCs_sum l, sizeL_sum, List.flatMap_cons, sumE_append]; rfl
theorem sizeA_sum (x : As) : sizeA x = sumE (partsA x) := by
 cases x;rw [sizeA, sizeCs_sum, partsA, sumE_append]; simp [sumE, As.c, As.e]
theorem sizeAs_sum : ∀ l : List As, sizeAs l = sumE (l.flatMap partsA)
 | [] => rfl
 | x :: l => by rw [sizeAs, sizeA_sum, sizeAs_sum l, List.flatMap_cons, sumE_append]
theorem sizeE_sum (e : Ex) : sizeE e = 1 + sumE (parts e) := by
 cases e;rw [sizeE, sizeL_sum, sizeAs_sum, parts, sumE_append, Nat.add_assoc]; rfl
theorem sumE_mem {l : List Ex} {x : Ex} (h : x ∈ l) : sizeE x ≤ sumE l := by
 induction l with
 | nil => cases h
 | cons y l ih =>
  rw [sumE, List.map_cons, List.sum_cons];rcases List.mem_cons.1 h with rfl | h
  ·omega
  ·have := ih h;unfold sumE at this; omega
theorem sizeE_parts {e x : Ex} (h : x ∈ parts e) : sizeE x < sizeE e := by
 rw [sizeE_sum e]; have := sumE_mem h; omega
theorem mem_parts_l {e x : Ex} (h : x ∈ e.l) : x ∈ parts e := List.mem_append_left _ h
theorem mem_parts_a {e x : Ex} {a : As} (ha : a ∈ e.a) (h : x ∈ partsA a) : x ∈ parts e := List.mem_append_right _ (List.mem_flatMap.2 ⟨a, ha, h⟩)
theorem mem_partsA_e (a : As) : a.e ∈ partsA a := List.mem_append_right _ (by simp)
theorem mem_partsA_c {a : As} {c : Ch} {x : Ex} (hc : c ∈ a.c) (h : x ∈ c.l) : x ∈ partsA a := List.mem_append_left _ (List.mem_flatMap.2 ⟨c, hc, h⟩)
theorem Ex.ind {p : Ex → Prop} (h : ∀ e, (∀ x ∈ parts e, p x) → p e) (e : Ex) : p e := by
 have key : ∀ n e, sizeE e < n → p e := by
  intro n
  induction n with
  | zero => intro e he; omega
  | succ n ih =>
   intro e he;refine h e fun x hx => ih x ?_;have := sizeE_parts hx;omega
 exact key _ e (Nat.lt_succ_self _)
def namedE (e : Ex) : Bool := decide (3 ≤ e.kind) && decide (e.kind ≤ 8)
def namedN (e : Ex) (k : Nat) : Bool := decide (e.l.length = k) && namedE (e.l.getD 0 ex0)
def inOrd : List As → Bool
 | a :: b :: r => (a.c.isEmpty || !b.c.isEmpty) && inOrd (b :: r)
 | _ => true
def simpleCs : List Ch → Bool
 | [c] => decide (c.kind = 1) && (match c.l with | [x] => decide (x.kind = 3) | _ => false)
 | _ => false
def rightC (n : Nat) (c : Ch) : Bool :=
 if c.kind = 1 then decide (c.l.length = 1) else if c.kind = 2 then decide (c.l.length = 2) else decide (c.kind = 3) && decide (c.l.length = 0) && decide (n ≤ 1)
def rightCs (l : List Ch) : Bool := decide (0 < l.length) && decide (l.length ≤ 16) && l.all (rightC l.length)
def argsOk (l : List As) : Bool := decide (0 < l.length) && decide (l.length ≤ 8) && inOrd l && l.all fun a => a.c.isEmpty || simpleCs a.c
def firstOthers (l : List Ch) : Bool := match l with | c :: _ => decide (c.kind = 3) | [] => false
def assocAll : List As → Bool
 | [] => true
 | a :: r => (a.c.isEmpty || rightCs a.c && (!firstOthers a.c || r.isEmpty)) && assocAll r
def oneBare : List As → Bool
 | [a] => a.c.isEmpty
 | _ => false
def assocsOk (l : List As) : Bool := decide (0 < l.length) && decide (l.length ≤ 32) && inOrd l && !oneBare l && assocAll l
def zO (e : Ex) : Bool := decide (e.oper = 0)
def zN (e : Ex) : Bool := decide (e.n = 0)
def zS (e : Ex) : Bool := decide (e.s = [])
def zA (e : Ex) : Bool := e.a.isEmpty
def fieldsE (e : Ex) : Bool :=
 if e.kind = 1 then e.l.isEmpty && decide (0 ≤ e.n) && decide (e.n ≤ 2147483647) && zO e && zS e && zA e
 else if e.kind = 2 then e.l.isEmpty && zO e && zN e && zS e && zA e
 else if e.kind = 3 then e.l.isEmpty && nameB e.s && zO e && zN e && zA e
 else if e.kind = 4 ∨ e.kind = 6 then namedN e 1 && nameB e.s && zO e && zN e && zA e
 else if e.kind = 5 then namedN e 1 && zO e && zN e && zS e && zA e
 else if e.kind = 7 then namedN e 1 && argsOk e.a && zO e && zN e && zS e
 else if e.kind = 8 then namedN e 2 && zO e && zN e && zS e && zA e
 else if e.kind = 9 then e.l.isEmpty && assocsOk e.a && zO e && zN e && zS e
 else if e.kind = 10 then decide (e.l.length = 3) && zO e && zN e && zS e && zA e
 else if e.kind = 11 then decide (e.l.length = 1) && decide (18 ≤ e.oper) && decide (e.oper ≤ 21) && zN e && zS e && zA e
 else if e.kind = 12 then decide (e.l.length = 2) && decide (1 ≤ e.oper) && decide (e.oper ≤ 17) && zN e && zS e && zA e
 else if e.kind = 13 ∨ e.kind = 14 then (decide (e.l.length = 3) || decide (e.l.length = 2) && namedE (e.l.getD 1 ex0)) && zO e && zN e && zS e && zA e
 else false
mutual
def validE (d : Nat) : Ex → Bool
 | .mk k o n s l a li en t => decide (d ≤ 32) && fieldsE (.mk k o n s l a li en t) && validL (d + 1) l && validAs (d + 1) a
def validL (d : Nat) : List Ex → Bool
 | [] => true
 | x :: l => validE d x && validL d l
def validA (d : Nat) : As → Bool
 | .mk c e => validCs d c && validE d e
def validAs (d : Nat) : List As → Bool
 | [] => true
 | x :: l => validA d x && validAs d l
def validC (d : Nat) : Ch → Bool
 | .mk _ l => validL d l
def validCs (d : Nat) : List Ch → Bool
 | [] => true
 | x :: l => validC d x && validCs d l
end
theorem validL_all (d : Nat) : ∀ l : List Ex, validL d l = l.all (validE d)
 | [] => rfl
 | x :: l => by rw [validL, validL_all d l, List.all_cons]
theorem validCs_all (d : Nat) : ∀ l : List Ch, validCs d l = (l.flatMap Ch.l).all (validE d)
 | [] => rfl
 | .mk k x :: l => by rw [validCs, validC, validCs_all d l, validL_all, List.flatMap_cons, List.all_append]; rfl
theorem validA_all (d : Nat) (x : As) : validA d x = (partsA x).all (validE d) := by
 cases x;rw [validA, validCs_all, partsA, List.all_append]; simp [As.c, As.e]
theorem validAs_all (d : Nat) : ∀ l : List As, validAs d l = (l.flatMap partsA).all (validE d)
 | [] => rfl
 | x :: l => by rw [validAs, validA_all, validAs_all d l, List.flatMap_cons, List.all_append]
theorem validE_eq (d : Nat) (e : Ex) : validE d e = (decide (d ≤ 32) && fieldsE e && (parts e).all (validE (d + 1))) := by
 cases e;rw [validE, validL_all, validAs_all, parts, List.all_append, Bool.and_assoc (decide (d ≤ 32) && _)]; rfl
def mayE (e : Ex) : Bool := validE 1 e && decide (sizeE e ≤ 256)
def levelE (e : Ex) : Int :=
 if e.kind = 13 ∨ e.kind = 14 then 1
 else if e.kind = 11 then (if e.oper = 18 ∨ e.oper = 19 then 2 else if e.oper = 20 ∨ e.oper = 21 then 4 else 5)
 else if e.kind = 12 then (if 13 ≤ e.oper ∧ e.oper ≤ 17 then 0 else if 7 ≤ e.oper ∧ e.oper ≤ 12 then 1 else if e.oper = 1 ∨ e.oper = 2 then 2 else if 3 ≤ e.oper ∧ e.oper ≤ 6 then 3 else 5)
 else 5
mutual
def sameE : Ex → Ex → Bool
 | .mk k o n s l a _ _ _, f => decide (k = f.kind) && decide (o = f.oper) && decide (n = f.n) && decide (s = f.s) && sameLE l f.l && sameAs a f.a
def sameLE : List Ex → List Ex → Bool
 | [], [] => true
 | x :: l, y :: m => sameE x y && sameLE l m
 | _, _ => false
def sameA : As → As → Bool
 | .mk c e, y => sameCs c y.c && sameE e y.e
def sameAs : List As → List As → Bool
 | [], [] => true
 | x :: l, y :: m => sameA x y && sameAs l m
 | _, _ => false
def sameC : Ch → Ch → Bool
 | .mk k l, y => decide (k = y.kind) && sameLE l y.l
def sameCs : List Ch → List Ch → Bool
 | [], [] => true
 | x :: l, y :: m => sameC x y && sameCs l m
 | _, _ => false
end
theorem sameE_eq (e f : Ex) : sameE e f = (decide (e.kind = f.kind) && decide (e.oper = f.oper) && decide (e.n = f.n) && decide (e.s = f.s) && sameLE e.l f.l && sameAs e.a f.a) := by
 cases e; rw [sameE]; rfl
end Go.Dl

-- Chapter 3: expressions: the plain laws, part 2: reading.
namespace Go.Dl
open Go
set_option maxRecDepth 10000
inductive Res (α : Type) where
 | bot
 | fail (k : Nat)
 | ok (x : α) (k : Nat)
def Res.then {α β : Type} : Res α → (α → Nat → Res β) → Res β
 | .bot, _ => .bot
 | .fail k, _ => .fail k
 | .ok x k, f => f x k
structure PS where
 expr : Nat → Res Ex
 rest : Ex → Nat → Res Ex
 restL : Nat → Ex → Nat → Res Ex
 relation : Ex → Nat → Res Ex
 simple : Nat → Res Ex
 addL : Ex → Nat → Res Ex
 term : Nat → Res Ex
 mulL : Ex → Nat → Res Ex
 factor : Nat → Res Ex
 primary : Nat → Res Ex
 paren : Nat → Res Ex
 assoc : Nat → Res As
 assocsL : List As → Nat → Res (List As)
 choice : Nat → Res Ch
 choicesL : List Ch → Nat → Res (List Ch)
 arg : Nat → Res As
 argsL : List As → Nat → Res (List As)
 name : Nat → Res Ex
 nameL : Int → Ex → Nat → Res Ex
def botPS : PS := ⟨fun _ => .bot, fun _ _ => .bot, fun _ _ _ => .bot, fun _ _ => .bot, fun _ => .bot, fun _ _ => .bot, fun _ => .bot, fun _ _ => .bot, fun _ => .bot, fun _ => .bot, fun _ => .bot, fun _ => .bot, fun _ _ => .bot, fun _ => .bot, fun _ _ => .bot, fun _ => .bot, fun _ _ => .bot, fun _ => .bot, fun _ _ _ => .bot⟩
def wThen : List UInt8 := [116, 104, 101, 110]
def wElse : List UInt8 := [101, 108, 115, 101]
def wIf : List UInt8 := [105, 102]
def wIn : List UInt8 := [105, 110]
def wNot : List UInt8 := [110, 111, 116]
def wAll : List UInt8 := [97, 108, 108]
def wNull : List UInt8 := [110, 117, 108, 108]
def wOthers : List UInt8 := [111, 116, 104, 101, 114, 115]
def wAnd : List UInt8 := [97, 110, 100]
def wOr : List UInt8 := [111, 114]
def wXor : List UInt8 := [120, 111, 114]
def wMod : List UInt8 := [109, 111, 100]
def wRem : List UInt8 := [114, 101, 109]
def wAbs : List UInt8 := [97, 98, 115]
def wOpen : List UInt8 := [40]
def wShut : List UInt8 := [41]
def wComma : List UInt8 := [44]
def wBar : List UInt8 := [124]
def wDot : List UInt8 := [46]
def wDots : List UInt8 := [46, 46]
def wTick : List UInt8 := [39]
def wArrow : List UInt8 := [61, 62]
def wordsL : List (List (List UInt8)) := [[], [[43]], [[45]], [[42]], [[47]], [wMod], [wRem], [[61]], [[47, 61]], [[60]], [[60, 61]], [[62]], [[62, 61]], [wAnd], [wOr], [wXor], [wAnd, wThen], [wOr, wElse], [[43]], [[45]], [wAbs], [wNot]]
def wordsN (o : Nat) : List (List UInt8) := wordsL.getD o []
section
variable (l : List Tok)
def tk (k : Nat) : Tok := l.getD k tok0
def kindW (s : List UInt8) : Int := if keyB s then 2 else 4
def isW (k : Nat) : List (List UInt8) → Bool
 | [] => true
 | s :: r => decide ((tk l k).kind = kindW s) && decide ((tk l k).text = s) && isW (k + 1) r
def opF (want k : Nat) : List Nat → Nat × Nat
 | [] => (0, k)
 | o :: r => if isW l k (wordsN o) then (if want ≠ 0 ∧ o ≠ want then (0, k) else (o, k + (wordsN o).length)) else opF want k r
def both (o : Nat) (a b : Ex) : Ex := .mk 12 o 0 [] [a, b] [] a.line 0 0
def mona (o : Nat) (line : Int) (x : Ex) : Ex := if o = 0 then x else .mk 11 o 0 [] [x] [] line 0 0
def must {α : Type} (s : List UInt8) (k : Nat) (f : Nat → Res α) : Res α := if isW l k [s] then f (k + 1) else .fail k
def takeN {α : Type} (k : Nat) (f : List UInt8 → Nat → Res α) : Res α := if (tk l k).kind = 1 then f (tk l k).text (k + 1) else .fail k
def aggr (line : Int) (a : List As) : Ex := match a with
 | [x] => if x.c = [] then x.e else .mk 9 0 0 [] [] a line 0 0
 | _ => .mk 9 0 0 [] [] a line 0 0
def opsLog : List Nat := [17, 16, 15, 14, 13]
def opsRel : List Nat := [12, 11, 10, 9, 8, 7]
def opsSign : List Nat := [19, 18]
def opsAdd : List Nat := [2, 1]
def opsMul : List Nat := [6, 5, 4, 3]
def opsFac : List Nat := [21, 20]
def inK (x : Ex) (kind : Int) (k : Nat) (p : PS) : Res Ex :=
 (p.simple k).then fun y k => if isW l k [wDots] then (p.simple (k + 1)).then fun z k => .ok (.mk kind 0 0 [] [x, y, z] [] x.line 0 0) k
  else if namedE y then .ok (.mk kind 0 0 [] [x, y] [] x.line 0 0) k else .fail k
def stepP (p : PS) : PS where
 expr k := (p.simple k).then fun x k => p.rest x k
 rest x k := (p.relation x k).then fun x k => p.restL (opF l 0 k opsLog).1 x k
 restL o x k := if o = 0 then .ok x k else
  let q := opF l o k opsLog
  if q.1 = 0 then .ok x k else (p.simple q.2).then fun y k => (p.relation y k).then fun y k => p.restL o (both o x y) k
 relation x k :=
  let q := opF l 0 k opsRel
  if q.1 ≠ 0 then (p.simple q.2).then fun y k => .ok (both q.1 x y) k
  else if isW l k [wIn] then inK l x 13 (k + 1) p
  else if isW l k [wNot, wIn] then inK l x 14 (k + 2) p
  else .ok x k
 simple k :=
  let q := opF l 0 k opsSign
  (p.term q.2).then fun x k' => p.addL (mona q.1 (tk l k).line x) k'
 addL x k :=
  let q := opF l 0 k opsAdd
  if q.1 = 0 then .ok x k else (p.term q.2).then fun y k => p.addL (both q.1 x y) k
 term k := (p.factor k).then fun x k => p.mulL x k
 mulL x k :=
  let q := opF l 0 k opsMul
  if q.1 = 0 then .ok x k else (p.factor q.2).then fun y k => p.mulL (both q.1 x y) k
 factor k :=
  let q := opF l 0 k opsFac
  (p.primary q.2).then fun x k' => .ok (mona q.1 (tk l k).line x) k'
 primary k :=
  if (tk l k).kind = 3 then .ok (.mk 1 0 (tk l k).n [] [] [] (tk l k).line 0 0) (k + 1)
  else if isW l k [wNull] then .ok (.mk 2 0 0 [] [] [] (tk l k).line 0 0) (k + 1)
  else if isW l k [wOpen] then p.paren k
  else p.name k
 paren k := must l wOpen k fun k1 =>
  if isW l k1 [wIf] then (p.expr (k1 + 1)).then fun a k => must l wThen k fun k => (p.expr k).then fun b k => must l wElse k fun k => (p.expr k).then fun c k' => must l wShut k' fun k' => .ok (.mk 10 0 0 [] [a, b, c] [] (tk l (k1 - 1)).line 0 0) k'
  else (p.assoc k1).then fun a k => (p.assocsL [a] k).then fun az k => must l wShut k fun k => .ok (aggr (tk l (k1 - 1)).line az) k
 assoc k := (p.choice k).then fun c k =>
  if c.kind = 1 ∧ isW l k [wBar] = false ∧ isW l k [wArrow] = false then .ok (.mk [] (c.l.getD 0 ex0)) k
  else if c.kind = 3 then must l wArrow k fun k => (p.expr k).then fun e k => .ok (.mk [c] e) k
  else (p.choicesL [c] k).then fun cs k => must l wArrow k fun k => (p.expr k).then fun e k => .ok (.mk cs e) k
 assocsL az k := if isW l k [wComma] then (p.assoc (k + 1)).then fun a k => p.assocsL (az ++ [a]) k else .ok az k
 choice k := if isW l k [wOthers] then .ok (.mk 3 []) (k + 1) else
  (p.simple k).then fun x k => if isW l k [wDots] then (p.simple (k + 1)).then fun y k => .ok (.mk 2 [x, y]) k
   else (p.rest x k).then fun x k => .ok (.mk 1 [x]) k
 choicesL cs k := if isW l k [wBar] then (p.choice (k + 1)).then fun c k => p.choicesL (cs ++ [c]) k else .ok cs k
 arg k := if (tk l k).kind = 1 ∧ isW l (k + 1) [wArrow] = true then (p.expr (k + 2)).then fun e k' => .ok (.mk [.mk 1 [.mk 3 0 0 (tk l k).text [] [] (tk l k).line 0 0]] e) k'
  else (p.expr k).then fun e k => .ok (.mk [] e) k
 argsL az k := if isW l k [wComma] then (p.arg (k + 1)).then fun a k => p.argsL (az ++ [a]) k else .ok az k
 name k := takeN l k fun s k1 => p.nameL (tk l k).line (.mk 3 0 0 s [] [] (tk l k).line 0 0) k1
 nameL line x k :=
  if isW l k [wDot, wAll] then p.nameL line (.mk 5 0 0 [] [x] [] line 0 0) (k + 2)
  else if isW l k [wDot] then takeN l (k + 1) fun s k => p.nameL line (.mk 4 0 0 s [x] [] line 0 0) k
  else if isW l k [wOpen] then (p.arg (k + 1)).then fun a k => (p.argsL [a] k).then fun az k => must l wShut k fun k => p.nameL line (.mk 7 0 0 [] [x] az line 0 0) k
  else if isW l k [wTick, wOpen] then (p.paren (k + 1)).then fun y k => p.nameL line (.mk 8 0 0 [] [x, y] [] line 0 0) k
  else if isW l k [wTick] then takeN l (k + 1) fun s k => p.nameL line (.mk 6 0 0 s [x] [] line 0 0) k
  else .ok x k
def P : Nat → PS
 | 0 => botPS
 | n + 1 => stepP l (P n)
end
end Go.Dl

-- Chapter 3: expressions: the plain laws, part 3: reading comes to an answer, the same whatever the fuel.
namespace Go.Dl
open Go
set_option maxRecDepth 10000
def Res.Le {α : Type} (r r' : Res α) : Prop := r = .bot ∨ r = r'
theorem Res.Le.refl {α : Type} (r : Res α) : r.Le r := .inr rfl
theorem then_le {α β : Type} {r r' : Res α} {f g : α → Nat → Res β} (h : r.Le r') (k : ∀ x k, (f x k).Le (g x k)) : (r.then f).Le (r'.then g) := by
 rcases h with rfl | rfl
 ·exact .inl rfl
 ·cases r with
  | bot => exact .inl rfl
  | fail k => exact .inr rfl
  | ok x n => exact k x n
theorem ite_le {α : Type} {c : Prop} [Decidable c] {a b a' b' : Res α} (h : a.Le a') (k : b.Le b') : (if c then a else b).Le (if c then a' else b') := by
 split
 ·exact h
 ·exact k
section
variable {l : List Tok}
theorem must_le {α : Type} {s : List UInt8} {k : Nat} {f g : Nat → Res α} (h : ∀ k, (f k).Le (g k)) : (must l s k f).Le (must l s k g) := ite_le (h _) (.refl _)
theorem takeN_le {α : Type} {k : Nat} {f g : List UInt8 → Nat → Res α} (h : ∀ s k, (f s k).Le (g s k)) : (takeN l k f).Le (takeN l k g) := ite_le (h _ _) (.refl _)
structure PS.Le (p q : PS) : Prop where
 expr : ∀ k, (p.expr k).Le (q.expr k)
 rest : ∀ x k, (p.rest x k).Le (q.rest x k)
 restL : ∀ o x k, (p.restL o x k).Le (q.restL o x k)
 relation : ∀ x k, (p.relation x k).Le (q.relation x k)
 simple : ∀ k, (p.simple k).Le (q.simple k)
 addL : ∀ x k, (p.addL x k).Le (q.addL x k)
 term : ∀ k, (p.term k).Le (q.term k)
 mulL : ∀ x k, (p.mulL x k).Le (q.mulL x k)
 factor : ∀ k, (p.factor k).Le (q.factor k)
 primary : ∀ k, (p.primary k).Le (q.primary k)
 paren : ∀ k, (p.paren k).Le (q.paren k)
 assoc : ∀ k, (p.assoc k).Le (q.assoc k)
 assocsL : ∀ a k, (p.assocsL a k).Le (q.assocsL a k)
 choice : ∀ k, (p.choice k).Le (q.choice k)
 choicesL : ∀ a k, (p.choicesL a k).Le (q.choicesL a k)
 arg : ∀ k, (p.arg k).Le (q.arg k)
 argsL : ∀ a k, (p.argsL a k).Le (q.argsL a k)
 name : ∀ k, (p.name k).Le (q.name k)
 nameL : ∀ i x k, (p.nameL i x k).Le (q.nameL i x k)
theorem botPS_le (q : PS) : botPS.Le q := by constructor <;> intros <;> exact .inl rfl
theorem stepP_le {p q : PS} (h : p.Le q) : (stepP l p).Le (stepP l q) := by
 constructor <;> intros <;> dsimp only [stepP, inK] <;> repeat' first
  | exact Res.Le.refl _
  | exact h.expr _
  | exact h.rest _ _
  | exact h.restL _ _ _
  | exact h.relation _ _
  | exact h.simple _
  | exact h.addL _ _
  | exact h.term _
  | exact h.mulL _ _
  | exact h.factor _
  | exact h.primary _
  | exact h.paren _
  | exact h.assoc _
  | exact h.assocsL _ _
  | exact h.choice _
  | exact h.choicesL _ _
  | exact h.arg _
  | exact h.argsL _ _
  | exact h.name _
  | exact h.nameL _ _ _
  | refine then_le ?_ fun _ _ => ?_
  | refine must_le fun _ => ?_
  | refine takeN_le fun _ _ => ?_
  | refine ite_le ?_ ?_
theorem P_succ_le : ∀ n, (P l n).Le (P l (n + 1))
 | 0 => botPS_le _
 | n + 1 => stepP_le (P_succ_le n)
def Adv (l : List Tok) {α : Type} (lb : Nat) : Res α → Prop
 | .bot => True
 | .fail k => k ≤ l.length
 | .ok _ k => lb ≤ k ∧ k ≤ l.length
theorem adv_then {α β : Type} {a b : Nat} {r : Res α} {f : α → Nat → Res β} (h : Adv l a r) (k : ∀ x n, a ≤ n → n ≤ l.length → Adv l b (f x n)) : Adv l b (r.then f) := by
 cases r with
 | bot => trivial
 | fail n => exact h
 | ok x n => exact k x n h.1 h.2
theorem adv_ok {α : Type} {a k : Nat} {x : α} (h : a ≤ k) (h2 : k ≤ l.length) : Adv l a (.ok x k) := ⟨h, h2⟩
theorem adv_less {α : Type} {a b : Nat} {r : Res α} (h : Adv l a r) (hb : b ≤ a) : Adv l b r := by
 cases r with
 | bot => trivial
 | fail n => exact h
 | ok x n => exact ⟨Nat.le_trans hb h.1, h.2⟩
theorem tk_none {k : Nat} (h : l.length ≤ k) : tk l k = tok0 := by rw [tk, List.getD, List.getElem?_eq_none h]; rfl
theorem tk_lt {k : Nat} (h : (tk l k).kind ≠ 0) : k < l.length := by
 rcases Nat.lt_or_ge k l.length with h2 | h2
 ·exact h2
 ·rw [tk_none h2] at h; exact absurd rfl h
theorem kindW_ne (s : List UInt8) : kindW s ≠ 0 := by unfold kindW; split <;> decide
theorem isW_lt : ∀ {ws : List (List UInt8)} {k : Nat}, isW l k ws = true → k ≤ l.length → k + ws.length ≤ l.length
 | [], k, _, hk => hk
 | s :: r, k, h, _ => by
  rw [isW, Bool.and_eq_true, Bool.and_eq_true, decide_eq_true_eq] at h;have h1 : k < l.length := tk_lt (by rw [h.1.1]; exact kindW_ne s);have := isW_lt h.2 h1;rw [List.length_cons]; omega
theorem wordsN_ne : ∀ o, o < 22 → o ≠ 0 → 0 < (wordsN o).length := by decide +kernel
theorem opF_adv {want k : Nat} : ∀ {os : List Nat}, (∀ o ∈ os, o < 22 ∧ o ≠ 0) → k ≤ l.length → ((opF l want k os).1 = 0 → (opF l want k os).2 = k) ∧ ((opF l want k os).1 ≠ 0 → k + 1 ≤ (opF l want k os).2) ∧ (opF l want k os).2 ≤ l.length ∧ k ≤ (opF l want k os).2
 | [], _, hk => ⟨fun _ => rfl, fun h => absurd rfl h, hk, Nat.le_refl _⟩
 | o :: r, h, hk => by
  have ih := opF_adv (want := want) (os := r) (fun x hx => h x (by simp [hx])) hk;rw [opF];split
  ·rename_i hw
   split
   ·exact ⟨fun _ => rfl, fun h => absurd rfl h, hk, Nat.le_refl _⟩
   ·have h1 := isW_lt hw hk;have h2 := wordsN_ne o (h o (by simp)).1 (h o (by simp)).2;exact ⟨fun e => absurd e (h o (by simp)).2, fun _ => by dsimp only; omega, h1, by dsimp only; omega⟩
  ·exact ih
theorem must_adv {α : Type} {s : List UInt8} {k a : Nat} {f : Nat → Res α} (hk : k ≤ l.length) (h : k + 1 ≤ l.length → Adv l a (f (k + 1))) : Adv l a (must l s k f) := by
 unfold must;split
 ·rename_i hw
  exact h (isW_lt hw hk)
 ·exact hk
theorem takeN_adv {α : Type} {k a : Nat} {f : List UInt8 → Nat → Res α} (hk : k ≤ l.length) (h : k + 1 ≤ l.length → ∀ s, Adv l a (f s (k + 1))) : Adv l a (takeN l k f) := by
 unfold takeN;split
 ·rename_i hw
  exact h (tk_lt (by rw [hw]; decide)) _
 ·exact hk
structure PS.Adv (l : List Tok) (p : PS) : Prop where
 expr : ∀ k, k ≤ l.length → Dl.Adv l (k + 1) (p.expr k)
 rest : ∀ x k, k ≤ l.length → Dl.Adv l k (p.rest x k)
 restL : ∀ o x k, k ≤ l.length → Dl.Adv l k (p.restL o x k)
 relation : ∀ x k, k ≤ l.length → Dl.Adv l k (p.relation x k)
 simple : ∀ k, k ≤ l.length → Dl.Adv l (k + 1) (p.simple k)
 addL : ∀ x k, k ≤ l.length → Dl.Adv l k (p.addL x k)
 term : ∀ k, k ≤ l.length → Dl.Adv l (k + 1) (p.term k)
 mulL : ∀ x k, k ≤ l.length → Dl.Adv l k (p.mulL x k)
 factor : ∀ k, k ≤ l.length → Dl.Adv l (k + 1) (p.factor k)
 primary : ∀ k, k ≤ l.length → Dl.Adv l (k + 1) (p.primary k)
 paren : ∀ k, k ≤ l.length → Dl.Adv l (k + 1) (p.paren k)
 assoc : ∀ k, k ≤ l.length → Dl.Adv l (k + 1) (p.assoc k)
 assocsL : ∀ a k, k ≤ l.length → Dl.Adv l k (p.assocsL a k)
 choice : ∀ k, k ≤ l.length → Dl.Adv l (k + 1) (p.choice k)
 choicesL : ∀ a k, k ≤ l.length → Dl.Adv l k (p.choicesL a k)
 arg : ∀ k, k ≤ l.length → Dl.Adv l (k + 1) (p.arg k)
 argsL : ∀ a k, k ≤ l.length → Dl.Adv l k (p.argsL a k)
 name : ∀ k, k ≤ l.length → Dl.Adv l (k + 1) (p.name k)
 nameL : ∀ i x k, k ≤ l.length → Dl.Adv l k (p.nameL i x k)
theorem ops_ok : (∀ o ∈ opsLog, o < 22 ∧ o ≠ 0) ∧ (∀ o ∈ opsRel, o < 22 ∧ o ≠ 0) ∧ (∀ o ∈ opsSign, o < 22 ∧ o ≠ 0) ∧ (∀ o ∈ opsAdd, o < 22 ∧ o ≠ 0) ∧ (∀ o ∈ opsMul, o < 22 ∧ o ≠ 0) ∧ ∀ o ∈ opsFac, o < 22 ∧ o ≠ 0 := by decide
theorem inK_adv {p : PS} (h : p.Adv l) {x : Ex} {kind : Int} {k : Nat} (hk : k ≤ l.length) : Dl.Adv l k (inK l x kind k p) := by
 refine adv_then (h.simple k hk) fun y n h1 h2 => ?_;split
 ·rename_i hw
  have := isW_lt hw h2;refine adv_then (h.simple (n + 1) (by simpa using this)) fun z m h3 h4 => adv_ok (by omega) h4
 ·split
  ·exact adv_ok (by omega) h2
  ·exact h2
theorem stepP_adv {p : PS} (h : p.Adv l) : (stepP l p).Adv l where
 expr k hk := adv_then (h.simple k hk) fun x n h1 h2 => adv_less (h.rest x n h2) (by omega)
 rest x k hk := adv_then (h.relation x k hk) fun x n h1 h2 => adv_less (h.restL _ x n h2) (by omega)
 restL o x k hk := by
  dsimp only [stepP]
  split
  ·exact adv_ok (by omega) hk
  ·obtain ⟨q1, q2, q3, q4⟩ := opF_adv (want := o) ops_ok.1 hk
   split
   ·exact adv_ok (by omega) hk
   ·rename_i hq
    have := q2 hq
    exact adv_then (h.simple _ q3) fun y n h1 h2 => adv_then (h.relation y n h2) fun z m h3 h4 => adv_less (h.restL _ _ m h4) (by omega)
 relation x k hk := by
  dsimp only [stepP]
  obtain ⟨q1, q2, q3, q4⟩ := opF_adv (want := 0) ops_ok.2.1 hk
  split
  ·rename_i hq
   have := q2 hq
   exact adv_then (h.simple _ q3) fun y n h1 h2 => adv_ok (by omega) h2
  ·split
   ·rename_i hw
    have := isW_lt hw hk
    exact adv_less (inK_adv h (by simpa using this)) (by omega)
   ·split
    ·rename_i hw
     have := isW_lt hw hk
     exact adv_less (inK_adv h (by simpa using this)) (by omega)
    ·exact adv_ok (by omega) hk
 simple k hk := by
  obtain ⟨q1, q2, q3, q4⟩ := opF_adv (want := 0) ops_ok.2.2.1 hk
  exact adv_then (h.term _ q3) fun x n h1 h2 => adv_less (h.addL _ n h2) (by omega)
 addL x k hk := by
  dsimp only [stepP]
  obtain ⟨q1, q2, q3, q4⟩ := opF_adv (want := 0) ops_ok.2.2.2.1 hk
  split
  ·exact adv_ok (by omega) hk
  ·exact adv_then (h.term _ q3) fun x n h1 h2 => adv_less (h.addL _ n h2) (by omega)
 term k hk := adv_then (h.factor k hk) fun x n h1 h2 => adv_less (h.mulL _ n h2) (by omega)
 mulL x k hk := by
  dsimp only [stepP]
  obtain ⟨q1, q2, q3, q4⟩ := opF_adv (want := 0) ops_ok.2.2.2.2.1 hk
  split
  ·exact adv_ok (by omega) hk
  ·exact adv_then (h.factor _ q3) fun x n h1 h2 => adv_less (h.mulL _ n h2) (by omega)
 factor k hk := by
  obtain ⟨q1, q2, q3, q4⟩ := opF_adv (want := 0) ops_ok.2.2.2.2.2 hk
  exact adv_then (h.primary _ q3) fun x n h1 h2 => adv_ok (by omega) h2
 primary k hk := by
  dsimp only [stepP]
  split
  ·rename_i hq
   have := tk_lt (l := l) (k := k) (by rw [hq]; decide)
   exact adv_ok (by omega) this
  ·split
   ·rename_i hw
    have := isW_lt hw hk
    exact adv_ok (by omega) (by simpa using this)
   ·split
    ·exact h.paren k hk
    ·exact h.name k hk
 paren k hk := by
  dsimp only [stepP]
  refine must_adv hk fun hk1 => ?_
  split
  ·rename_i hw
   have := isW_lt hw hk1
   refine adv_then (h.expr _ (by simpa using this)) fun a n1 h1 h2 => must_adv h2 fun h3 => adv_then (h.expr _ h3) fun b n2 h4 h5 => must_adv h5 fun h6 => adv_then (h.expr _ h6) fun c n3 h7 h8 => must_adv h8 fun h9 => adv_ok (by omega) h9
  ·exact adv_then (h.assoc _ hk1) fun a n1 h1 h2 => adv_then (h.assocsL _ _ h2) fun az n2 h3 h4 => must_adv h4 fun h5 => adv_ok (by omega) h5
 assoc k hk := by
  refine adv_then (h.choice k hk) fun c n h1 h2 => ?_
  split
  ·exact adv_ok (by omega) h2
  ·split
   ·exact must_adv h2 fun h3 => adv_then (h.expr _ h3) fun e m h4 h5 => adv_ok (by omega) h5
   ·exact adv_then (h.choicesL _ _ h2) fun cs m h3 h4 => must_adv h4 fun h5 => adv_then (h.expr _ h5) fun e m h6 h7 => adv_ok (by omega) h7
 assocsL az k hk := by
  dsimp only [stepP]
  split
  ·rename_i hw
   have := isW_lt hw hk
   exact adv_then (h.assoc _ (by simpa using this)) fun a n h1 h2 => adv_less (h.assocsL _ n h2) (by omega)
  ·exact adv_ok (by omega) hk
 choice k hk := by
  dsimp only [stepP]
  split
  ·rename_i hw
   have := isW_lt hw hk
   exact adv_ok (by omega) (by simpa using this)
  ·refine adv_then (h.simple k hk) fun x n h1 h2 => ?_
   split
   ·rename_i hw
    have := isW_lt hw h2
    exact adv_then (h.simple _ (by simpa using this)) fun y m h3 h4 => adv_ok (by omega) h4
   ·exact adv_then (h.rest x n h2) fun y m h3 h4 => adv_ok (by omega) h4
 choicesL az k hk := by
  dsimp only [stepP]
  split
  ·rename_i hw
   have := isW_lt hw hk
   exact adv_then (h.choice _ (by simpa using this)) fun a n h1 h2 => adv_less (h.choicesL _ n h2) (by omega)
  ·exact adv_ok (by omega) hk
 arg k hk := by
  dsimp only [stepP]
  split
  ·rename_i hw
   have := tk_lt (l := l) (k := k) (by rw [hw.1]; decide)
   have := isW_lt hw.2 this
   exact adv_then (h.expr _ (by simpa using this)) fun y m h3 h4 => adv_ok (by omega) h4
  ·exact adv_then (h.expr k hk) fun y m h3 h4 => adv_ok (by omega) h4
 argsL az k hk := by
  dsimp only [stepP]
  split
  ·rename_i hw
   have := isW_lt hw hk
   exact adv_then (h.arg _ (by simpa using this)) fun a n h1 h2 => adv_less (h.argsL _ n h2) (by omega)
  ·exact adv_ok (by omega) hk
 name k hk := takeN_adv hk fun h1 s => h.nameL _ _ _ h1
 nameL i x k hk := by
  dsimp only [stepP]
  split
  ·rename_i hw
   have := isW_lt hw hk
   exact adv_less (h.nameL _ _ _ (by simpa using this)) (by omega)
  ·split
   ·rename_i hw
    have := isW_lt hw hk
    exact takeN_adv (by simpa using this) fun h1 s => adv_less (h.nameL _ _ _ h1) (by omega)
   ·split
    ·rename_i hw
     have := isW_lt hw hk
     exact adv_then (h.arg _ (by simpa using this)) fun a n h1 h2 => adv_then (h.argsL _ _ h2) fun az m h3 h4 => must_adv h4 fun h5 => adv_less (h.nameL _ _ _ h5) (by omega)
    ·split
     ·rename_i hw
      have := isW_lt hw hk
      simp only [List.length_cons, List.length_nil] at this
      exact adv_then (h.paren _ (by omega)) fun a n h1 h2 => adv_less (h.nameL _ _ _ h2) (by omega)
     ·split
      ·rename_i hw
       have := isW_lt hw hk
       exact takeN_adv (by simpa using this) fun h1 s => adv_less (h.nameL _ _ _ h1) (by omega)
      ·exact adv_ok (by omega) hk
theorem P_adv : ∀ n, (P l n).Adv l
 | 0 => by constructor <;> intros <;> trivial
 | n + 1 => stepP_adv (P_adv n)
end
end Go.Dl

-- Chapter 3: expressions as data.
namespace Go.Dl
open Go Go.Proofs
set_option maxRecDepth 100000
mutual
def dEx : Ex → List DVal
 | .mk k o n s l a li en t => [.int .u8 k, .int .u8 o, .int .i64 n, .str s, .vslice (dExs l) l.length, .vslice (dAss a) a.length, .int .i64 li, .int .i64 en, .int .i64 t]
def dExs : List Ex → List DVal
 | [] => []
 | x :: l => dEx x ++ dExs l
def dAs : As → List DVal
 | .mk c e => .vslice (dChs c) c.length :: dEx e
def dAss : List As → List DVal
 | [] => []
 | x :: l => dAs x ++ dAss l
def dCh : Ch → List DVal
 | .mk k l => [.int .u8 k, .vslice (dExs l) l.length]
def dChs : List Ch → List DVal
 | [] => []
 | x :: l => dCh x ++ dChs l
end
theorem dExs_flat : ∀ l : List Ex, dExs l = l.flatMap dEx
 | [] => rfl
 | x :: l => by rw [dExs, dExs_flat l, List.flatMap_cons]
theorem dAss_flat : ∀ l : List As, dAss l = l.flatMap dAs
 | [] => rfl
 | x :: l => by rw [dAss, dAss_flat l, List.flatMap_cons]
theorem dChs_flat : ∀ l : List Ch, dChs l = l.flatMap dCh
 | [] => rfl
 | x :: l => by rw [dChs, dChs_flat l, List.flatMap_cons]
theorem dEx_mk (k o n : Int) (s : List UInt8) (l : List Ex) (a : List As) (li en t : Int) : dEx (.mk k o n s l a li en t) = [.int .u8 k, .int .u8 o, .int .i64 n, .str s, .vslice (l.flatMap dEx) l.length, .vslice (a.flatMap dAs) a.length, .int .i64 li, .int .i64 en, .int .i64 t] := by
 rw [dEx, dExs_flat, dAss_flat]
theorem dEx_eq (e : Ex) : dEx e = [.int .u8 e.kind, .int .u8 e.oper, .int .i64 e.n, .str e.s, .vslice (e.l.flatMap dEx) e.l.length, .vslice (e.a.flatMap dAs) e.a.length, .int .i64 e.line, .int .i64 e.ent, .int .i64 e.t] := by
 cases e; rw [dEx_mk]; rfl
theorem dAs_eq (x : As) : dAs x = .vslice (x.c.flatMap dCh) x.c.length :: dEx x.e := by
 cases x; rw [dAs, dChs_flat]; rfl
theorem dCh_eq (x : Ch) : dCh x = [.int .u8 x.kind, .vslice (x.l.flatMap dEx) x.l.length] := by
 cases x; rw [dCh, dExs_flat]; rfl
theorem dEx_len (e : Ex) : (dEx e).length = 9 := by rw [dEx_eq]; rfl
theorem dAs_len (e : As) : (dAs e).length = 10 := by rw [dAs_eq, List.length_cons, dEx_len]
theorem dCh_len (e : Ch) : (dCh e).length = 2 := by rw [dCh_eq]; rfl
theorem dEx_t (e : Ex) : (dEx e).take 9 = dEx e := List.take_of_length_le (by rw [dEx_len]; decide)
theorem dAs_t (e : As) : (dAs e).take 10 = dAs e := List.take_of_length_le (by rw [dAs_len]; decide)
theorem dCh_t (e : Ch) : (dCh e).take 2 = dCh e := List.take_of_length_le (by rw [dCh_len]; decide)
theorem dEx_d (e : Ex) : (dEx e).drop 9 = [] := List.drop_of_length_le (by rw [dEx_len]; decide)
theorem dEx_one (e : Ex) : (dEx e).all (fun d => d.one) = true := by rw [dEx_eq]; rfl
theorem dAs_one (e : As) : (dAs e).all (fun d => d.one) = true := by rw [dAs_eq, List.all_cons, dEx_one]; rfl
theorem dCh_one (e : Ch) : (dCh e).all (fun d => d.one) = true := by rw [dCh_eq]; rfl
theorem dEx_0 (e : Ex) : (dEx e)[0]? = some (.int .u8 e.kind) := by rw [dEx_eq]; rfl
theorem dEx_1 (e : Ex) : (dEx e)[1]? = some (.int .u8 e.oper) := by rw [dEx_eq]; rfl
theorem dEx_2 (e : Ex) : (dEx e)[2]? = some (.int .i64 e.n) := by rw [dEx_eq]; rfl
theorem dEx_3 (e : Ex) : (dEx e)[3]? = some (.str e.s) := by rw [dEx_eq]; rfl
theorem dEx_4 (e : Ex) : (dEx e)[4]? = some (.vslice (e.l.flatMap dEx) e.l.length) := by rw [dEx_eq]; rfl
theorem dEx_5 (e : Ex) : (dEx e)[5]? = some (.vslice (e.a.flatMap dAs) e.a.length) := by rw [dEx_eq]; rfl
theorem dAs_0 (e : As) : (dAs e)[0]? = some (.vslice (e.c.flatMap dCh) e.c.length) := by rw [dAs_eq]; rfl
theorem dAs_1 (e : As) : ((dAs e).drop 1).take 9 = dEx e.e := by rw [dAs_eq]; exact dEx_t _
theorem dCh_0 (e : Ch) : (dCh e)[0]? = some (.int .u8 e.kind) := by rw [dCh_eq]; rfl
theorem dCh_1 (e : Ch) : (dCh e)[1]? = some (.vslice (e.l.flatMap dEx) e.l.length) := by rw [dCh_eq]; rfl
def dXs (l : List Ex) : DVal := .vslice (l.flatMap dEx) l.length
def dAl (l : List As) : DVal := .vslice (l.flatMap dAs) l.length
def dCl (l : List Ch) : DVal := .vslice (l.flatMap dCh) l.length
attribute [go_sem] dEx_len dAs_len dCh_len dEx_t dAs_t dCh_t dEx_d dEx_one dAs_one dCh_one dEx_0 dEx_1 dEx_2 dEx_3 dEx_4 dEx_5 dAs_0 dAs_1 dCh_0 dCh_1 List.append_nil
section
variable {G : Nat → DVal} {H : DHeap}
theorem namedE_spec (G : Nat → DVal) (H : DHeap) (e : Ex) : DCalls Tryz.prog G 16 [.agg (dEx e)] H (DRet (.bool (namedE e)) H) := by
 refine dcalls_intro Tryz.func16 Tryz.call16 rfl (by kernel_rfl) ?_;simp (disch := omega) only [go_sem, DVal.cells];intro r hr; dsimp only at hr;by_cases h1 : 3 ≤ e.kind
 ·simp (disch := omega) only [go_sem, h1];exact DFin.dropA r hr (DFin.refl ⟨by rw [namedE, decide_eq_true h1, Bool.true_and], rfl⟩)
 ·simp (disch := omega) only [go_sem, h1];exact DFin.dropA r hr (DFin.refl ⟨by rw [namedE, decide_eq_false h1, Bool.false_and], rfl⟩)
theorem rnamed_spec (G : Nat → DVal) (H : DHeap) (e : Ex) : DCalls Tryz.prog G 19 [.agg (dEx e)] H (DRet (.bool (namedE e)) H) := by
 refine dcalls_intro Tryz.func19 Tryz.call19 rfl (by kernel_rfl) ?_;simp (disch := omega) only [go_sem, DVal.cells];intro r hr; dsimp only at hr;by_cases h3 : e.kind = 3
 ·simp (disch := omega) only [go_sem, h3];exact DFin.dropA r hr (DFin.refl ⟨by rw [namedE, h3]; rfl, rfl⟩)
 by_cases h4 : e.kind = 4
 ·simp (disch := omega) only [go_sem, h3, h4];exact DFin.dropA r hr (DFin.refl ⟨by rw [namedE, h4]; rfl, rfl⟩)
 by_cases h5 : e.kind = 5
 ·simp (disch := omega) only [go_sem, h3, h4, h5];exact DFin.dropA r hr (DFin.refl ⟨by rw [namedE, h5]; rfl, rfl⟩)
 by_cases h6 : e.kind = 6
 ·simp (disch := omega) only [go_sem, h3, h4, h5, h6];exact DFin.dropA r hr (DFin.refl ⟨by rw [namedE, h6]; rfl, rfl⟩)
 by_cases h7 : e.kind = 7
 ·simp (disch := omega) only [go_sem, h3, h4, h5, h6, h7];exact DFin.dropA r hr (DFin.refl ⟨by rw [namedE, h7]; rfl, rfl⟩)
 by_cases h8 : e.kind = 8
 ·simp (disch := omega) only [go_sem, h3, h4, h5, h6, h7, h8];exact DFin.dropA r hr (DFin.refl ⟨by rw [namedE, h8]; rfl, rfl⟩)
 ·simp (disch := omega) only [go_sem, h3, h4, h5, h6, h7, h8];refine DFin.dropA r hr (DFin.refl ⟨?_, rfl⟩);rw [namedE, ← Bool.decide_and, decide_eq_false (by omega)]
end
end Go.Dl
