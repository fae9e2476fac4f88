/- The data level and the contracts of the functions that are reached (part 13). -/
import Derived.ChangeSame
import Derived.Deep.Slices
import Derived.RowKit3
import Derived.Test.YtlahodmjhbpfiaaGreatDoorRows
import Derived.DeepKeys4
import Derived.LaidLaws
import Derived.Stop.LaidErr
import Derived.Shelf.Vars
import Derived.Test.YtlahodmjhbpfiaaGreatDoorPul
set_option linter.unusedSimpArgs false
set_option linter.unusedVariables false
set_option linter.unusedSectionVars false
-- Closed calls that the examples need, worked out by the kernel. MADE BY PROGRAM (gen_memo.py).
namespace Go.Dl
open Go Go.Proofs
set_option maxRecDepth 100000
def De8:DVal:= .vslice [(.int .u8 4),(.int .i64 1),(.str [40]),(.int .i64 0),(.int .u8 1),(.int .i64 1),(.str [82,101,100]),(.int .i64 0),(.int .u8 4),(.int .i64 1),(.str [44]),(.int .i64 0),(.int .u8 1),(.int .i64 1),(.str [71,114,101,101,110]),(.int .i64 0),(.int .u8 4),(.int .i64 1),(.str [41]),(.int .i64 0),(.int .u8 4),(.int .i64 1),(.str [59]),(.int .i64 0)] 6
def De9:DVal:= .vslice [(.int .u8 2),(.int .i64 1),(.str [108,105,109,105,116,101,100]),(.int .i64 0),(.int .u8 2),(.int .i64 1),(.str [112,114,105,118,97,116,101]),(.int .i64 0),(.int .u8 4),(.int .i64 1),(.str [59]),(.int .i64 0)] 3
def Df0:DVal:= .vslice [(.int .u8 2),(.int .i64 1),(.str [110,117,108,108]),(.int .i64 0),(.int .u8 2),(.int .i64 1),(.str [114,101,99,111,114,100]),(.int .i64 0)] 2
def Df1:DVal:= .vslice [(.int .u8 2),(.int .i64 1),(.str [114,101,99,111,114,100]),(.int .i64 0),(.int .u8 1),(.int .i64 1),(.str [65]),(.int .i64 0),(.int .u8 4),(.int .i64 1),(.str [58]),(.int .i64 0),(.int .u8 1),(.int .i64 1),(.str [84]),(.int .i64 0),(.int .u8 4),(.int .i64 1),(.str [59]),(.int .i64 0),(.int .u8 2),(.int .i64 1),(.str [99,97,115,101]),(.int .i64 0),(.int .u8 1),(.int .i64 1),(.str [68]),(.int .i64 0),(.int .u8 2),(.int .i64 1),(.str [105,115]),(.int .i64 0),(.int .u8 2),(.int .i64 1),(.str [119,104,101,110]),(.int .i64 0),(.int .u8 3),(.int .i64 1),(.str []),(.int .i64 1),(.int .u8 4),(.int .i64 1),(.str [61,62]),(.int .i64 0),(.int .u8 2),(.int .i64 1),(.str [110,117,108,108]),(.int .i64 0),(.int .u8 4),(.int .i64 1),(.str [59]),(.int .i64 0),(.int .u8 2),(.int .i64 1),(.str [101,110,100]),(.int .i64 0),(.int .u8 2),(.int .i64 1),(.str [99,97,115,101]),(.int .i64 0),(.int .u8 4),(.int .i64 1),(.str [59]),(.int .i64 0),(.int .u8 2),(.int .i64 1),(.str [101,110,100]),(.int .i64 0),(.int .u8 2),(.int .i64 1),(.str [114,101,99,111,114,100]),(.int .i64 0),(.int .u8 4),(.int .i64 1),(.str [59]),(.int .i64 0)] 19
def Df2:DVal:= .vslice [(.int .u8 1),(.int .i64 1),(.str [73,110,116,101,103,101,114]),(.int .i64 0),(.int .u8 2),(.int .i64 1),(.str [114,97,110,103,101]),(.int .i64 0),(.int .u8 3),(.int .i64 1),(.str []),(.int .i64 1),(.int .u8 4),(.int .i64 1),(.str [46,46]),(.int .i64 0),(.int .u8 3),(.int .i64 1),(.str []),(.int .i64 10)] 5
def Df3:DVal:= .vslice [(.int .u8 1),(.int .i64 1),(.str [84]),(.int .i64 0),(.int .u8 2),(.int .i64 1),(.str [114,97,110,103,101]),(.int .i64 0),(.int .u8 3),(.int .i64 1),(.str []),(.int .i64 1),(.int .u8 4),(.int .i64 1),(.str [46,46]),(.int .i64 0),(.int .u8 1),(.int .i64 1),(.str [78]),(.int .i64 0),(.int .u8 4),(.int .i64 1),(.str [41]),(.int .i64 0)] 6
def Df4:DVal:= .vslice [(.int .u8 1),(.int .i64 1),(.str [84]),(.int .i64 0),(.int .u8 4),(.int .i64 1),(.str [40]),(.int .i64 0),(.int .u8 3),(.int .i64 1),(.str []),(.int .i64 1),(.int .u8 4),(.int .i64 1),(.str [41]),(.int .i64 0)] 4
def Df5:DVal:= .vslice [(.int .u8 1),(.int .i64 1),(.str [65]),(.int .i64 0),(.int .u8 4),(.int .i64 1),(.str [58]),(.int .i64 0),(.int .u8 2),(.int .i64 1),(.str [105,110]),(.int .i64 0),(.int .u8 2),(.int .i64 1),(.str [111,117,116]),(.int .i64 0),(.int .u8 1),(.int .i64 1),(.str [84]),(.int .i64 0),(.int .u8 4),(.int .i64 1),(.str [59]),(.int .i64 0),(.int .u8 1),(.int .i64 1),(.str [66]),(.int .i64 0),(.int .u8 4),(.int .i64 1),(.str [44]),(.int .i64 0),(.int .u8 1),(.int .i64 1),(.str [67]),(.int .i64 0),(.int .u8 4),(.int .i64 1),(.str [58]),(.int .i64 0),(.int .u8 1),(.int .i64 1),(.str [84]),(.int .i64 0),(.int .u8 4),(.int .i64 1),(.str [58,61]),(.int .i64 0),(.int .u8 3),(.int .i64 1),(.str []),(.int .i64 1),(.int .u8 4),(.int .i64 1),(.str [41]),(.int .i64 0)] 14
def Ei8:DVal:= .agg [(.int .u8 1),(.vslice [(.str [82,101,100]),(.str [71,114,101,101,110])] 2),(.int .u8 0),(.int .u8 0),(.int .i64 0),(.str []), .nilSlice, .nilSlice,(.int .i64 0),(.int .i64 0),(.int .i64 0),(.int .u8 0),(.int .u8 0),(.int .i64 0),(.str []), .nilSlice, .nilSlice,(.int .i64 0),(.int .i64 0),(.int .i64 0),(.int .u8 0),(.int .u8 0),(.int .i64 0),(.str []), .nilSlice, .nilSlice,(.int .i64 0),(.int .i64 0),(.int .i64 0),(.int .u8 0),(.int .u8 0),(.int .i64 0),(.str []), .nilSlice, .nilSlice,(.int .i64 0),(.int .i64 0),(.int .i64 0),(.int .u8 0),(.int .u8 0),(.int .i64 0),(.str []), .nilSlice, .nilSlice,(.int .i64 0),(.int .i64 0),(.int .i64 0),(.int .u8 0),(.int .u8 0),(.int .i64 0),(.str []), .nilSlice, .nilSlice,(.int .i64 0),(.int .i64 0),(.int .i64 0),(.int .u8 0),(.int .u8 0),(.int .i64 0),(.str []), .nilSlice, .nilSlice,(.int .i64 0),(.int .i64 0),(.int .i64 0),(.int .u8 0),(.int .u8 0),(.int .i64 0),(.str []), .nilSlice, .nilSlice,(.int .i64 0),(.int .i64 0),(.int .i64 0),(.int .u8 0),(.int .u8 0),(.int .i64 0),(.str []), .nilSlice, .nilSlice,(.int .i64 0),(.int .i64 0),(.int .i64 0), .nilSlice,(.str []), .nilSlice,(.bool false)]
def Ei9:DVal:= .agg [(.int .u8 7), .nilSlice,(.int .u8 0),(.int .u8 0),(.int .i64 0),(.str []), .nilSlice, .nilSlice,(.int .i64 0),(.int .i64 0),(.int .i64 0),(.int .u8 0),(.int .u8 0),(.int .i64 0),(.str []), .nilSlice, .nilSlice,(.int .i64 0),(.int .i64 0),(.int .i64 0),(.int .u8 0),(.int .u8 0),(.int .i64 0),(.str []), .nilSlice, .nilSlice,(.int .i64 0),(.int .i64 0),(.int .i64 0),(.int .u8 0),(.int .u8 0),(.int .i64 0),(.str []), .nilSlice, .nilSlice,(.int .i64 0),(.int .i64 0),(.int .i64 0),(.int .u8 0),(.int .u8 0),(.int .i64 0),(.str []), .nilSlice, .nilSlice,(.int .i64 0),(.int .i64 0),(.int .i64 0),(.int .u8 0),(.int .u8 0),(.int .i64 0),(.str []), .nilSlice, .nilSlice,(.int .i64 0),(.int .i64 0),(.int .i64 0),(.int .u8 0),(.int .u8 0),(.int .i64 0),(.str []), .nilSlice, .nilSlice,(.int .i64 0),(.int .i64 0),(.int .i64 0),(.int .u8 0),(.int .u8 0),(.int .i64 0),(.str []), .nilSlice, .nilSlice,(.int .i64 0),(.int .i64 0),(.int .i64 0),(.int .u8 0),(.int .u8 0),(.int .i64 0),(.str []), .nilSlice, .nilSlice,(.int .i64 0),(.int .i64 0),(.int .i64 0), .nilSlice,(.str []), .nilSlice,(.bool true)]
def Ej0:DVal:= .agg [(.int .u8 5), .nilSlice,(.int .u8 0),(.int .u8 0),(.int .i64 0),(.str []), .nilSlice, .nilSlice,(.int .i64 0),(.int .i64 0),(.int .i64 0),(.int .u8 0),(.int .u8 0),(.int .i64 0),(.str []), .nilSlice, .nilSlice,(.int .i64 0),(.int .i64 0),(.int .i64 0),(.int .u8 0),(.int .u8 0),(.int .i64 0),(.str []), .nilSlice, .nilSlice,(.int .i64 0),(.int .i64 0),(.int .i64 0),(.int .u8 0),(.int .u8 0),(.int .i64 0),(.str []), .nilSlice, .nilSlice,(.int .i64 0),(.int .i64 0),(.int .i64 0),(.int .u8 0),(.int .u8 0),(.int .i64 0),(.str []), .nilSlice, .nilSlice,(.int .i64 0),(.int .i64 0),(.int .i64 0),(.int .u8 0),(.int .u8 0),(.int .i64 0),(.str []), .nilSlice, .nilSlice,(.int .i64 0),(.int .i64 0),(.int .i64 0),(.int .u8 0),(.int .u8 0),(.int .i64 0),(.str []), .nilSlice, .nilSlice,(.int .i64 0),(.int .i64 0),(.int .i64 0),(.int .u8 0),(.int .u8 0),(.int .i64 0),(.str []), .nilSlice, .nilSlice,(.int .i64 0),(.int .i64 0),(.int .i64 0),(.int .u8 0),(.int .u8 0),(.int .i64 0),(.str []), .nilSlice, .nilSlice,(.int .i64 0),(.int .i64 0),(.int .i64 0), .nilSlice,(.str []), .nilSlice,(.bool false)]
def Ej1:DVal:= .agg [(.int .u8 5), .nilSlice,(.int .u8 0),(.int .u8 0),(.int .i64 0),(.str []), .nilSlice, .nilSlice,(.int .i64 0),(.int .i64 0),(.int .i64 0),(.int .u8 0),(.int .u8 0),(.int .i64 0),(.str []), .nilSlice, .nilSlice,(.int .i64 0),(.int .i64 0),(.int .i64 0),(.int .u8 0),(.int .u8 0),(.int .i64 0),(.str []), .nilSlice, .nilSlice,(.int .i64 0),(.int .i64 0),(.int .i64 0),(.int .u8 0),(.int .u8 0),(.int .i64 0),(.str []), .nilSlice, .nilSlice,(.int .i64 0),(.int .i64 0),(.int .i64 0),(.int .u8 0),(.int .u8 0),(.int .i64 0),(.str []), .nilSlice, .nilSlice,(.int .i64 0),(.int .i64 0),(.int .i64 0),(.int .u8 0),(.int .u8 0),(.int .i64 0),(.str []), .nilSlice, .nilSlice,(.int .i64 0),(.int .i64 0),(.int .i64 0),(.int .u8 0),(.int .u8 0),(.int .i64 0),(.str []), .nilSlice, .nilSlice,(.int .i64 0),(.int .i64 0),(.int .i64 0),(.int .u8 0),(.int .u8 0),(.int .i64 0),(.str []), .nilSlice, .nilSlice,(.int .i64 0),(.int .i64 0),(.int .i64 0),(.int .u8 0),(.int .u8 0),(.int .i64 0),(.str []), .nilSlice, .nilSlice,(.int .i64 0),(.int .i64 0),(.int .i64 0),(.vslice [(.vslice [(.str [65])] 1),(.int .u8 3),(.int .u8 0),(.int .i64 0),(.str [84]), .nilSlice, .nilSlice,(.int .i64 1),(.int .i64 0),(.int .i64 0),(.int .u8 0),(.int .u8 0),(.int .i64 0),(.str []), .nilSlice, .nilSlice,(.int .i64 0),(.int .i64 0),(.int .i64 0),(.int .u8 0),(.int .u8 0),(.int .i64 0),(.str []), .nilSlice, .nilSlice,(.int .i64 0),(.int .i64 0),(.int .i64 0),(.int .u8 0),(.int .u8 0),(.int .i64 0),(.str []), .nilSlice, .nilSlice,(.int .i64 0),(.int .i64 0),(.int .i64 0),(.int .u8 0),(.int .u8 0),(.int .i64 0),(.str []), .nilSlice, .nilSlice,(.int .i64 0),(.int .i64 0),(.int .i64 0),(.int .i64 1)] 1),(.str [68]),(.vslice [(.vslice [(.int .u8 1),(.vslice [(.int .u8 1),(.int .u8 0),(.int .i64 1),(.str []), .nilSlice, .nilSlice,(.int .i64 1),(.int .i64 0),(.int .i64 0)] 1)] 1), .nilSlice] 1),(.bool false)]
def Ej2:DVal:= .vslice [(.int .i64 0),(.vslice [(.int .u8 4),(.int .i64 0),(.str [40]),(.int .i64 0),(.int .u8 1),(.int .i64 0),(.str [82,101,100]),(.int .i64 0),(.int .u8 4),(.int .i64 0),(.str [44]),(.int .i64 0),(.int .u8 1),(.int .i64 0),(.str [71,114,101,101,110]),(.int .i64 0),(.int .u8 4),(.int .i64 0),(.str [41]),(.int .i64 0)] 5)] 1
def Ej3:DVal:= .vslice [(.int .i64 0),(.vslice [(.int .u8 2),(.int .i64 0),(.str [108,105,109,105,116,101,100]),(.int .i64 0),(.int .u8 2),(.int .i64 0),(.str [112,114,105,118,97,116,101]),(.int .i64 0)] 2)] 1
def Ej4:DVal:= .vslice [(.int .i64 0),(.vslice [(.int .u8 2),(.int .i64 0),(.str [110,117,108,108]),(.int .i64 0),(.int .u8 2),(.int .i64 0),(.str [114,101,99,111,114,100]),(.int .i64 0)] 2)] 1
def Ej5:DVal:= .vslice [(.int .i64 0),(.vslice [(.int .u8 2),(.int .i64 0),(.str [114,101,99,111,114,100]),(.int .i64 0)] 1),(.int .i64 1),(.vslice [(.int .u8 1),(.int .i64 0),(.str [65]),(.int .i64 0),(.int .u8 4),(.int .i64 0),(.str [58]),(.int .i64 0),(.int .u8 1),(.int .i64 0),(.str [84]),(.int .i64 0),(.int .u8 4),(.int .i64 0),(.str [59]),(.int .i64 0)] 4),(.int .i64 1),(.vslice [(.int .u8 2),(.int .i64 0),(.str [99,97,115,101]),(.int .i64 0),(.int .u8 1),(.int .i64 0),(.str [68]),(.int .i64 0),(.int .u8 2),(.int .i64 0),(.str [105,115]),(.int .i64 0)] 3),(.int .i64 2),(.vslice [(.int .u8 2),(.int .i64 0),(.str [119,104,101,110]),(.int .i64 0),(.int .u8 3),(.int .i64 0),(.str []),(.int .i64 1),(.int .u8 4),(.int .i64 0),(.str [61,62]),(.int .i64 0)] 3),(.int .i64 3),(.vslice [(.int .u8 2),(.int .i64 0),(.str [110,117,108,108]),(.int .i64 0),(.int .u8 4),(.int .i64 0),(.str [59]),(.int .i64 0)] 2),(.int .i64 1),(.vslice [(.int .u8 2),(.int .i64 0),(.str [101,110,100]),(.int .i64 0),(.int .u8 2),(.int .i64 0),(.str [99,97,115,101]),(.int .i64 0),(.int .u8 4),(.int .i64 0),(.str [59]),(.int .i64 0)] 3),(.int .i64 0),(.vslice [(.int .u8 2),(.int .i64 0),(.str [101,110,100]),(.int .i64 0),(.int .u8 2),(.int .i64 0),(.str [114,101,99,111,114,100]),(.int .i64 0)] 2)] 7
noncomputable def mq0:XP:=xpM []
def Fr4:List (FuncId×List DVal×DVal):= [(339,[], .vslice [(.str [97,98,111,114,116]),(.str [97,98,115]),(.str [97,99,99,101,112,116]),(.str [97,99,99,101,115,115]),(.str [97,108,105,97,115,101,100]),(.str [97,108,108]),(.str [97,110,100]),(.str [97,114,114,97,121]),(.str [98,101,103,105,110]),(.str [98,111,100,121]),(.str [99,97,115,101]),(.str [99,111,110,115,116,97,110,116]),(.str [100,101,99,108,97,114,101]),(.str [100,101,108,97,121]),(.str [100,111]),(.str [101,108,115,101]),(.str [101,108,115,105,102]),(.str [101,110,100]),(.str [101,110,116,114,121]),(.str [101,120,99,101,112,116,105,111,110]),(.str [101,120,105,116]),(.str [102,111,114]),(.str [102,117,110,99,116,105,111,110]),(.str [103,101,110,101,114,105,99]),(.str [105,102]),(.str [105,110]),(.str [105,115]),(.str [108,105,109,105,116,101,100]),(.str [108,111,111,112]),(.str [109,111,100]),(.str [110,101,119]),(.str [110,111,116]),(.str [110,117,108,108]),(.str [111,102]),(.str [111,114]),(.str [111,116,104,101,114,115]),(.str [111,117,116]),(.str [112,97,99,107,97,103,101]),(.str [112,114,97,103,109,97]),(.str [112,114,105,118,97,116,101]),(.str [112,114,111,99,101,100,117,114,101]),(.str [112,114,111,116,101,99,116,101,100]),(.str [114,97,105,115,101]),(.str [114,97,110,103,101]),(.str [114,101,99,111,114,100]),(.str [114,101,109]),(.str [114,101,110,97,109,101,115]),(.str [114,101,113,117,101,117,101]),(.str [114,101,116,117,114,110]),(.str [114,101,118,101,114,115,101]),(.str [115,101,108,101,99,116]),(.str [115,101,112,97,114,97,116,101]),(.str [115,117,98,116,121,112,101]),(.str [116,97,115,107]),(.str [116,101,114,109,105,110,97,116,101]),(.str [116,104,101,110]),(.str [116,121,112,101]),(.str [117,110,116,105,108]),(.str [117,115,101]),(.str [119,104,101,110]),(.str [119,104,105,108,101]),(.str [119,105,116,104]),(.str [120,111,114])] 63)]
theorem Fx6:Ev mq0 3000 Fr4=true:=by kernel_rfl
noncomputable def mq1:XP:=mq0.more Fr4
theorem Fx7 {G:Nat->DVal} (h:XOk mq0 G):XOk mq1 G:=h.more Fx6
def Fr5:List (FuncId×List DVal×DVal):= [(243,[.str [40]], .bool false),
(243,[.str [41]], .bool false),
(243,[.str [44]], .bool false),
(243,[.str [124]], .bool false),
(243,[.str [61,62]], .bool false),
(243,[.str [46,46]], .bool false),
(243,[.str [46]], .bool false),
(243,[.str [39]], .bool false),
(243,[.str [110,111,116]], .bool true),
(243,[.str [105,110]], .bool true),
(243,[.str [97,110,100]], .bool true),
(243,[.str [111,114]], .bool true)]
theorem Fx8:Ev mq1 3000 Fr5=true:=by kernel_rfl
noncomputable def mq2:XP:=mq1.more Fr5
theorem Fx9 {G:Nat->DVal} (h:XOk mq1 G):XOk mq2 G:=h.more Fx8
def Fr6:List (FuncId×List DVal×DVal):= [(243,[.str [120,111,114]], .bool true),
(243,[.str [116,104,101,110]], .bool true),
(243,[.str [101,108,115,101]], .bool true),
(243,[.str [109,111,100]], .bool true),
(243,[.str [114,101,109]], .bool true),
(243,[.str [97,98,115]], .bool true),
(243,[.str [43]], .bool false),
(243,[.str [45]], .bool false),
(243,[.str [38]], .bool false),
(243,[.str [42]], .bool false),
(243,[.str [47]], .bool false),
(243,[.str [42,42]], .bool false)]
theorem Fy0:Ev mq2 3000 Fr6=true:=by kernel_rfl
noncomputable def mq3:XP:=mq2.more Fr6
theorem Fy1 {G:Nat->DVal} (h:XOk mq2 G):XOk mq3 G:=h.more Fy0
def Fr7:List (FuncId×List DVal×DVal):= [(243,[.str [61]], .bool false),
(243,[.str [47,61]], .bool false),
(243,[.str [60]], .bool false),
(243,[.str [60,61]], .bool false),
(243,[.str [62]], .bool false),
(243,[.str [62,61]], .bool false),
(243,[.str [110,117,108,108]], .bool true),
(243,[.str [110,101,119]], .bool true),
(243,[.str [111,116,104,101,114,115]], .bool true),
(243,[.str [97,108,108]], .bool true),
(243,[.str [114,97,110,103,101]], .bool true),
(243,[.str [97,114,114,97,121]], .bool true)]
theorem Fy2:Ev mq3 3000 Fr7=true:=by kernel_rfl
noncomputable def mq4:XP:=mq3.more Fr7
theorem Fy3 {G:Nat->DVal} (h:XOk mq3 G):XOk mq4 G:=h.more Fy2
def Fr8:List (FuncId×List DVal×DVal):= [(243,[.str [114,101,99,111,114,100]], .bool true),
(243,[.str [97,99,99,101,115,115]], .bool true),
(243,[.str [112,114,105,118,97,116,101]], .bool true),
(243,[.str [108,105,109,105,116,101,100]], .bool true),
(243,[.str [58]], .bool false),
(243,[.str [58,61]], .bool false),
(243,[.str [111,117,116]], .bool true),
(243,[.str [59]], .bool false),
(243,[.str [99,97,115,101]], .bool true),
(243,[.str [105,115]], .bool true),
(243,[.str [119,104,101,110]], .bool true),
(243,[.str [111,102]], .bool true)]
theorem Fy4:Ev mq4 3000 Fr8=true:=by kernel_rfl
noncomputable def mq5:XP:=mq4.more Fr8
theorem Fy5 {G:Nat->DVal} (h:XOk mq4 G):XOk mq5 G:=h.more Fy4
def Fr9:List (FuncId×List DVal×DVal):= [(243,[.str [101,110,100]], .bool true)]
theorem Fy6:Ev mq5 3000 Fr9=true:=by kernel_rfl
noncomputable def mq6:XP:=mq5.more Fr9
theorem Fy7 {G:Nat->DVal} (h:XOk mq5 G):XOk mq6 G:=h.more Fy6
def Fs0:List (FuncId×List DVal×DVal):= [(77,[.str [40,82,101,100,44,32,71,114,101,101,110,41,59]],De8),
(77,[.str [108,105,109,105,116,101,100,32,112,114,105,118,97,116,101,59]],De9),
(77,[.str [110,117,108,108,32,114,101,99,111,114,100]],Df0)]
theorem Fy8:Ev mq6 3000 Fs0=true:=by kernel_rfl
noncomputable def mq7:XP:=mq6.more Fs0
theorem Fy9 {G:Nat->DVal} (h:XOk mq6 G):XOk mq7 G:=h.more Fy8
def Fs1:List (FuncId×List DVal×DVal):= [(77,[.str [114,101,99,111,114,100,32,65,32,58,32,84,59,32,99,97,115,101,32,68,32,105,115,32,119,104,101,110,32,49,32,61,62,32,110,117,108,108,59,32,101,110,100,32,99,97,115,101,59,32,101,110,100,32,114,101,99,111,114,100,59]],Df1),
(77,[.str [73,110,116,101,103,101,114,32,114,97,110,103,101,32,49,32,46,46,32,49,48]],Df2),
(77,[.str [84,32,114,97,110,103,101,32,49,32,46,46,32,78,41]],Df3)]
theorem Fz0:Ev mq7 3000 Fs1=true:=by kernel_rfl
noncomputable def mq8:XP:=mq7.more Fs1
theorem Fz1 {G:Nat->DVal} (h:XOk mq7 G):XOk mq8 G:=h.more Fz0
def Fs2:List (FuncId×List DVal×DVal):= [(77,[.str [84,32,40,49,41]],Df4),
(77,[.str [65,32,58,32,105,110,32,111,117,116,32,84,59,32,66,44,32,67,32,58,32,84,32,58,61,32,49,41]],Df5),
(77,[.str [65,32,58,32,105,110,32,111,117,116,32,84]], .vslice [(.int .u8 1),(.int .i64 1),(.str [65]),(.int .i64 0),(.int .u8 4),(.int .i64 1),(.str [58]),(.int .i64 0),(.int .u8 2),(.int .i64 1),(.str [105,110]),(.int .i64 0),(.int .u8 2),(.int .i64 1),(.str [111,117,116]),(.int .i64 0),(.int .u8 1),(.int .i64 1),(.str [84]),(.int .i64 0)] 5)]
theorem Fz2:Ev mq8 3000 Fs2=true:=by kernel_rfl
noncomputable def mq9:XP:=mq8.more Fs2
theorem Fz3 {G:Nat->DVal} (h:XOk mq8 G):XOk mq9 G:=h.more Fz2
def Ez2:List (FuncId×List DVal×DVal):= [(22,[De8], .tuple [(.agg [(.int .u8 1),(.vslice [(.str [82,101,100]),(.str [71,114,101,101,110])] 2),(.int .u8 0),(.int .u8 0),(.int .i64 0),(.str []), .nilSlice, .nilSlice,(.int .i64 0),(.int .i64 0),(.int .i64 0),(.int .u8 0),(.int .u8 0),(.int .i64 0),(.str []), .nilSlice, .nilSlice,(.int .i64 0),(.int .i64 0),(.int .i64 0),(.int .u8 0),(.int .u8 0),(.int .i64 0),(.str []), .nilSlice, .nilSlice,(.int .i64 0),(.int .i64 0),(.int .i64 0),(.int .u8 0),(.int .u8 0),(.int .i64 0),(.str []), .nilSlice, .nilSlice,(.int .i64 0),(.int .i64 0),(.int .i64 0),(.int .u8 0),(.int .u8 0),(.int .i64 0),(.str []), .nilSlice, .nilSlice,(.int .i64 0),(.int .i64 0),(.int .i64 0),(.int .u8 0),(.int .u8 0),(.int .i64 0),(.str []), .nilSlice, .nilSlice,(.int .i64 0),(.int .i64 0),(.int .i64 0),(.int .u8 0),(.int .u8 0),(.int .i64 0),(.str []), .nilSlice, .nilSlice,(.int .i64 0),(.int .i64 0),(.int .i64 0),(.int .u8 0),(.int .u8 0),(.int .i64 0),(.str []), .nilSlice, .nilSlice,(.int .i64 0),(.int .i64 0),(.int .i64 0),(.int .u8 0),(.int .u8 0),(.int .i64 0),(.str []), .nilSlice, .nilSlice,(.int .i64 0),(.int .i64 0),(.int .i64 0), .nilSlice,(.str []), .nilSlice,(.bool false)]),(.int .i64 5),(.int .i64 0)])]
theorem Fs3:Ev mq9 3000 Ez2=true:=by kernel_rfl
noncomputable def Fk6:XP:=mq9.more Ez2
theorem Fs4 {G:Nat->DVal} (h:XOk mq9 G):XOk Fk6 G:=h.more Fs3
def Ez3:List (FuncId×List DVal×DVal):= [(22,[De9], .tuple [(.agg [(.int .u8 7), .nilSlice,(.int .u8 0),(.int .u8 0),(.int .i64 0),(.str []), .nilSlice, .nilSlice,(.int .i64 0),(.int .i64 0),(.int .i64 0),(.int .u8 0),(.int .u8 0),(.int .i64 0),(.str []), .nilSlice, .nilSlice,(.int .i64 0),(.int .i64 0),(.int .i64 0),(.int .u8 0),(.int .u8 0),(.int .i64 0),(.str []), .nilSlice, .nilSlice,(.int .i64 0),(.int .i64 0),(.int .i64 0),(.int .u8 0),(.int .u8 0),(.int .i64 0),(.str []), .nilSlice, .nilSlice,(.int .i64 0),(.int .i64 0),(.int .i64 0),(.int .u8 0),(.int .u8 0),(.int .i64 0),(.str []), .nilSlice, .nilSlice,(.int .i64 0),(.int .i64 0),(.int .i64 0),(.int .u8 0),(.int .u8 0),(.int .i64 0),(.str []), .nilSlice, .nilSlice,(.int .i64 0),(.int .i64 0),(.int .i64 0),(.int .u8 0),(.int .u8 0),(.int .i64 0),(.str []), .nilSlice, .nilSlice,(.int .i64 0),(.int .i64 0),(.int .i64 0),(.int .u8 0),(.int .u8 0),(.int .i64 0),(.str []), .nilSlice, .nilSlice,(.int .i64 0),(.int .i64 0),(.int .i64 0),(.int .u8 0),(.int .u8 0),(.int .i64 0),(.str []), .nilSlice, .nilSlice,(.int .i64 0),(.int .i64 0),(.int .i64 0), .nilSlice,(.str []), .nilSlice,(.bool true)]),(.int .i64 2),(.int .i64 0)])]
theorem Fs5:Ev Fk6 3000 Ez3=true:=by kernel_rfl
noncomputable def Fk7:XP:=Fk6.more Ez3
theorem Fs6 {G:Nat->DVal} (h:XOk Fk6 G):XOk Fk7 G:=h.more Fs5
def Ez4:List (FuncId×List DVal×DVal):= [(22,[Df0], .tuple [(.agg [(.int .u8 5), .nilSlice,(.int .u8 0),(.int .u8 0),(.int .i64 0),(.str []), .nilSlice, .nilSlice,(.int .i64 0),(.int .i64 0),(.int .i64 0),(.int .u8 0),(.int .u8 0),(.int .i64 0),(.str []), .nilSlice, .nilSlice,(.int .i64 0),(.int .i64 0),(.int .i64 0),(.int .u8 0),(.int .u8 0),(.int .i64 0),(.str []), .nilSlice, .nilSlice,(.int .i64 0),(.int .i64 0),(.int .i64 0),(.int .u8 0),(.int .u8 0),(.int .i64 0),(.str []), .nilSlice, .nilSlice,(.int .i64 0),(.int .i64 0),(.int .i64 0),(.int .u8 0),(.int .u8 0),(.int .i64 0),(.str []), .nilSlice, .nilSlice,(.int .i64 0),(.int .i64 0),(.int .i64 0),(.int .u8 0),(.int .u8 0),(.int .i64 0),(.str []), .nilSlice, .nilSlice,(.int .i64 0),(.int .i64 0),(.int .i64 0),(.int .u8 0),(.int .u8 0),(.int .i64 0),(.str []), .nilSlice, .nilSlice,(.int .i64 0),(.int .i64 0),(.int .i64 0),(.int .u8 0),(.int .u8 0),(.int .i64 0),(.str []), .nilSlice, .nilSlice,(.int .i64 0),(.int .i64 0),(.int .i64 0),(.int .u8 0),(.int .u8 0),(.int .i64 0),(.str []), .nilSlice, .nilSlice,(.int .i64 0),(.int .i64 0),(.int .i64 0), .nilSlice,(.str []), .nilSlice,(.bool false)]),(.int .i64 2),(.int .i64 0)])]
theorem Fs7:Ev Fk7 3000 Ez4=true:=by kernel_rfl
noncomputable def Fk8:XP:=Fk7.more Ez4
theorem Fs8 {G:Nat->DVal} (h:XOk Fk7 G):XOk Fk8 G:=h.more Fs7
def Ez5:List (FuncId×List DVal×DVal):= [(22,[Df1], .tuple [(.agg [(.int .u8 5), .nilSlice,(.int .u8 0),(.int .u8 0),(.int .i64 0),(.str []), .nilSlice, .nilSlice,(.int .i64 0),(.int .i64 0),(.int .i64 0),(.int .u8 0),(.int .u8 0),(.int .i64 0),(.str []), .nilSlice, .nilSlice,(.int .i64 0),(.int .i64 0),(.int .i64 0),(.int .u8 0),(.int .u8 0),(.int .i64 0),(.str []), .nilSlice, .nilSlice,(.int .i64 0),(.int .i64 0),(.int .i64 0),(.int .u8 0),(.int .u8 0),(.int .i64 0),(.str []), .nilSlice, .nilSlice,(.int .i64 0),(.int .i64 0),(.int .i64 0),(.int .u8 0),(.int .u8 0),(.int .i64 0),(.str []), .nilSlice, .nilSlice,(.int .i64 0),(.int .i64 0),(.int .i64 0),(.int .u8 0),(.int .u8 0),(.int .i64 0),(.str []), .nilSlice, .nilSlice,(.int .i64 0),(.int .i64 0),(.int .i64 0),(.int .u8 0),(.int .u8 0),(.int .i64 0),(.str []), .nilSlice, .nilSlice,(.int .i64 0),(.int .i64 0),(.int .i64 0),(.int .u8 0),(.int .u8 0),(.int .i64 0),(.str []), .nilSlice, .nilSlice,(.int .i64 0),(.int .i64 0),(.int .i64 0),(.int .u8 0),(.int .u8 0),(.int .i64 0),(.str []), .nilSlice, .nilSlice,(.int .i64 0),(.int .i64 0),(.int .i64 0),(.vslice [(.vslice [(.str [65])] 1),(.int .u8 3),(.int .u8 0),(.int .i64 0),(.str [84]), .nilSlice, .nilSlice,(.int .i64 1),(.int .i64 0),(.int .i64 0),(.int .u8 0),(.int .u8 0),(.int .i64 0),(.str []), .nilSlice, .nilSlice,(.int .i64 0),(.int .i64 0),(.int .i64 0),(.int .u8 0),(.int .u8 0),(.int .i64 0),(.str []), .nilSlice, .nilSlice,(.int .i64 0),(.int .i64 0),(.int .i64 0),(.int .u8 0),(.int .u8 0),(.int .i64 0),(.str []), .nilSlice, .nilSlice,(.int .i64 0),(.int .i64 0),(.int .i64 0),(.int .u8 0),(.int .u8 0),(.int .i64 0),(.str []), .nilSlice, .nilSlice,(.int .i64 0),(.int .i64 0),(.int .i64 0),(.int .i64 1)] 1),(.str [68]),(.vslice [(.vslice [(.int .u8 1),(.vslice [(.int .u8 1),(.int .u8 0),(.int .i64 1),(.str []), .nilSlice, .nilSlice,(.int .i64 1),(.int .i64 0),(.int .i64 0)] 1)] 1), .nilSlice] 1),(.bool false)]),(.int .i64 18),(.int .i64 0)])]
theorem Fs9:Ev Fk8 3000 Ez5=true:=by kernel_rfl
noncomputable def Fk9:XP:=Fk8.more Ez5
theorem Ft0 {G:Nat->DVal} (h:XOk Fk8 G):XOk Fk9 G:=h.more Fs9
def Ez6:List (FuncId×List DVal×DVal):= [(36,[Df2], .tuple [(.agg [(.int .u8 3),(.int .u8 0),(.int .i64 0),(.str [73,110,116,101,103,101,114]), .nilSlice, .nilSlice,(.int .i64 1),(.int .i64 0),(.int .i64 0),(.int .u8 1),(.int .u8 0),(.int .i64 1),(.str []), .nilSlice, .nilSlice,(.int .i64 1),(.int .i64 0),(.int .i64 0),(.int .u8 1),(.int .u8 0),(.int .i64 10),(.str []), .nilSlice, .nilSlice,(.int .i64 1),(.int .i64 0),(.int .i64 0),(.int .u8 0),(.int .u8 0),(.int .i64 0),(.str []), .nilSlice, .nilSlice,(.int .i64 0),(.int .i64 0),(.int .i64 0)]),(.int .i64 5),(.int .i64 0)])]
theorem Ft1:Ev Fk9 3000 Ez6=true:=by kernel_rfl
noncomputable def Fl0:XP:=Fk9.more Ez6
theorem Ft2 {G:Nat->DVal} (h:XOk Fk9 G):XOk Fl0 G:=h.more Ft1
def Ez7:List (FuncId×List DVal×DVal):= [(32,[Df3], .tuple [(.agg [(.int .u8 3),(.int .u8 0),(.int .i64 0),(.str [84]), .nilSlice, .nilSlice,(.int .i64 1),(.int .i64 0),(.int .i64 0),(.int .u8 1),(.int .u8 0),(.int .i64 1),(.str []), .nilSlice, .nilSlice,(.int .i64 1),(.int .i64 0),(.int .i64 0),(.int .u8 3),(.int .u8 0),(.int .i64 0),(.str [78]), .nilSlice, .nilSlice,(.int .i64 1),(.int .i64 0),(.int .i64 0)]),(.int .i64 5),(.int .i64 0)])]
theorem Ft3:Ev Fl0 3000 Ez7=true:=by kernel_rfl
noncomputable def Fl1:XP:=Fl0.more Ez7
theorem Ft4 {G:Nat->DVal} (h:XOk Fl0 G):XOk Fl1 G:=h.more Ft3
def Ez8:List (FuncId×List DVal×DVal):= [(32,[Df4], .tuple [(.agg [(.int .u8 0),(.int .u8 0),(.int .i64 0),(.str []), .nilSlice, .nilSlice,(.int .i64 0),(.int .i64 0),(.int .i64 0),(.int .u8 0),(.int .u8 0),(.int .i64 0),(.str []), .nilSlice, .nilSlice,(.int .i64 0),(.int .i64 0),(.int .i64 0),(.int .u8 0),(.int .u8 0),(.int .i64 0),(.str []), .nilSlice, .nilSlice,(.int .i64 0),(.int .i64 0),(.int .i64 0)]),(.int .i64 4),(.int .i64 40)])]
theorem Ft5:Ev Fl1 3000 Ez8=true:=by kernel_rfl
noncomputable def Fl2:XP:=Fl1.more Ez8
theorem Ft6 {G:Nat->DVal} (h:XOk Fl1 G):XOk Fl2 G:=h.more Ft5
def Ez9:List (FuncId×List DVal×DVal):= [(28,[Df5], .tuple [(.vslice [(.vslice [(.str [65])] 1),(.int .u8 3),(.int .u8 3),(.int .u8 0),(.int .i64 0),(.str [84]), .nilSlice, .nilSlice,(.int .i64 1),(.int .i64 0),(.int .i64 0),(.int .u8 0),(.int .u8 0),(.int .i64 0),(.str []), .nilSlice, .nilSlice,(.int .i64 0),(.int .i64 0),(.int .i64 0),(.int .i64 1),(.vslice [(.str [66]),(.str [67])] 2),(.int .u8 1),(.int .u8 3),(.int .u8 0),(.int .i64 0),(.str [84]), .nilSlice, .nilSlice,(.int .i64 1),(.int .i64 0),(.int .i64 0),(.int .u8 1),(.int .u8 0),(.int .i64 1),(.str []), .nilSlice, .nilSlice,(.int .i64 1),(.int .i64 0),(.int .i64 0),(.int .i64 1)] 2),(.int .i64 13),(.int .i64 0)])]
theorem Ft7:Ev Fl2 3000 Ez9=true:=by kernel_rfl
noncomputable def Fl3:XP:=Fl2.more Ez9
theorem Ft8 {G:Nat->DVal} (h:XOk Fl2 G):XOk Fl3 G:=h.more Ft7
def Fa0:List (FuncId×List DVal×DVal):= [(23,[Ei8, .int .i64 0], .tuple [(.vslice [(.int .i64 0),(.vslice [(.int .u8 4),(.int .i64 0),(.str [40]),(.int .i64 0),(.int .u8 1),(.int .i64 0),(.str [82,101,100]),(.int .i64 0),(.int .u8 4),(.int .i64 0),(.str [44]),(.int .i64 0),(.int .u8 1),(.int .i64 0),(.str [71,114,101,101,110]),(.int .i64 0),(.int .u8 4),(.int .i64 0),(.str [41]),(.int .i64 0)] 5)] 1),(.int .i64 0)]),
(23,[Ei9, .int .i64 0], .tuple [(.vslice [(.int .i64 0),(.vslice [(.int .u8 2),(.int .i64 0),(.str [108,105,109,105,116,101,100]),(.int .i64 0),(.int .u8 2),(.int .i64 0),(.str [112,114,105,118,97,116,101]),(.int .i64 0)] 2)] 1),(.int .i64 0)])]
theorem Ft9:Ev Fl3 3000 Fa0=true:=by kernel_rfl
noncomputable def Fl4:XP:=Fl3.more Fa0
theorem Fu0 {G:Nat->DVal} (h:XOk Fl3 G):XOk Fl4 G:=h.more Ft9
def Fa1:List (FuncId×List DVal×DVal):= [(23,[Ej0, .int .i64 0], .tuple [(.vslice [(.int .i64 0),(.vslice [(.int .u8 2),(.int .i64 0),(.str [110,117,108,108]),(.int .i64 0),(.int .u8 2),(.int .i64 0),(.str [114,101,99,111,114,100]),(.int .i64 0)] 2)] 1),(.int .i64 0)]),
(23,[Ej1, .int .i64 0], .tuple [(.vslice [(.int .i64 0),(.vslice [(.int .u8 2),(.int .i64 0),(.str [114,101,99,111,114,100]),(.int .i64 0)] 1),(.int .i64 1),(.vslice [(.int .u8 1),(.int .i64 0),(.str [65]),(.int .i64 0),(.int .u8 4),(.int .i64 0),(.str [58]),(.int .i64 0),(.int .u8 1),(.int .i64 0),(.str [84]),(.int .i64 0),(.int .u8 4),(.int .i64 0),(.str [59]),(.int .i64 0)] 4),(.int .i64 1),(.vslice [(.int .u8 2),(.int .i64 0),(.str [99,97,115,101]),(.int .i64 0),(.int .u8 1),(.int .i64 0),(.str [68]),(.int .i64 0),(.int .u8 2),(.int .i64 0),(.str [105,115]),(.int .i64 0)] 3),(.int .i64 2),(.vslice [(.int .u8 2),(.int .i64 0),(.str [119,104,101,110]),(.int .i64 0),(.int .u8 3),(.int .i64 0),(.str []),(.int .i64 1),(.int .u8 4),(.int .i64 0),(.str [61,62]),(.int .i64 0)] 3),(.int .i64 3),(.vslice [(.int .u8 2),(.int .i64 0),(.str [110,117,108,108]),(.int .i64 0),(.int .u8 4),(.int .i64 0),(.str [59]),(.int .i64 0)] 2),(.int .i64 1),(.vslice [(.int .u8 2),(.int .i64 0),(.str [101,110,100]),(.int .i64 0),(.int .u8 2),(.int .i64 0),(.str [99,97,115,101]),(.int .i64 0),(.int .u8 4),(.int .i64 0),(.str [59]),(.int .i64 0)] 3),(.int .i64 0),(.vslice [(.int .u8 2),(.int .i64 0),(.str [101,110,100]),(.int .i64 0),(.int .u8 2),(.int .i64 0),(.str [114,101,99,111,114,100]),(.int .i64 0)] 2)] 7),(.int .i64 0)])]
theorem Fu1:Ev Fl4 3000 Fa1=true:=by kernel_rfl
noncomputable def Fl5:XP:=Fl4.more Fa1
theorem Fu2 {G:Nat->DVal} (h:XOk Fl4 G):XOk Fl5 G:=h.more Fu1
def Fa2:List (FuncId×List DVal×DVal):= [(229,[Ej2], .tuple [(.str [40,82,101,100,44,32,71,114,101,101,110,41,10]),(.int .i64 0)]),
(229,[Ej3], .tuple [(.str [108,105,109,105,116,101,100,32,112,114,105,118,97,116,101,10]),(.int .i64 0)])]
theorem Fu3:Ev Fl5 3000 Fa2=true:=by kernel_rfl
noncomputable def Fl6:XP:=Fl5.more Fa2
theorem Fu4 {G:Nat->DVal} (h:XOk Fl5 G):XOk Fl6 G:=h.more Fu3
def Fa3:List (FuncId×List DVal×DVal):= [(229,[Ej4], .tuple [(.str [110,117,108,108,32,114,101,99,111,114,100,10]),(.int .i64 0)]),
(229,[Ej5], .tuple [(.str [114,101,99,111,114,100,10,32,32,65,32,58,32,84,59,10,32,32,99,97,115,101,32,68,32,105,115,10,32,32,32,32,119,104,101,110,32,49,32,61,62,10,32,32,32,32,32,32,110,117,108,108,59,10,32,32,101,110,100,32,99,97,115,101,59,10,101,110,100,32,114,101,99,111,114,100,10]),(.int .i64 0)])]
theorem Fu5:Ev Fl6 3000 Fa3=true:=by kernel_rfl
noncomputable def Fl7:XP:=Fl6.more Fa3
theorem Fu6 {G:Nat->DVal} (h:XOk Fl6 G):XOk Fl7 G:=h.more Fu5
def Fa4:List (FuncId×List DVal×DVal):= [(108,[.str [40,82,101,100,44,32,71,114,101,101,110,41,59], .int .i64 5, .int .u8 1, .str [40,82,101,100,44,32,71,114,101,101,110,41,10]], .bool true),
(108,[.str [108,105,109,105,116,101,100,32,112,114,105,118,97,116,101,59], .int .i64 2, .int .u8 7, .str [108,105,109,105,116,101,100,32,112,114,105,118,97,116,101,10]], .bool true),
(108,[.str [110,117,108,108,32,114,101,99,111,114,100], .int .i64 2, .int .u8 5, .str [110,117,108,108,32,114,101,99,111,114,100,10]], .bool true),
(108,[.str [114,101,99,111,114,100,32,65,32,58,32,84,59,32,99,97,115,101,32,68,32,105,115,32,119,104,101,110,32,49,32,61,62,32,110,117,108,108,59,32,101,110,100,32,99,97,115,101,59,32,101,110,100,32,114,101,99,111,114,100,59], .int .i64 18, .int .u8 5, .str [114,101,99,111,114,100,10,32,32,65,32,58,32,84,59,10,32,32,99,97,115,101,32,68,32,105,115,10,32,32,32,32,119,104,101,110,32,49,32,61,62,10,32,32,32,32,32,32,110,117,108,108,59,10,32,32,101,110,100,32,99,97,115,101,59,10,101,110,100,32,114,101,99,111,114,100,10]], .bool true)]
theorem Fu7:Ev Fl7 3000 Fa4=true:=by kernel_rfl
noncomputable def Fl8:XP:=Fl7.more Fa4
theorem Fu8 {G:Nat->DVal} (h:XOk Fl7 G):XOk Fl8 G:=h.more Fu7
def Fa5:List (FuncId×List DVal×DVal):= [(21,[], .bool true)]
theorem Fu9:Ev Fl8 3000 Fa5=true:=by kernel_rfl
noncomputable def Fv0:XP:=Fl8.more Fa5
theorem Fv1 {G:Nat->DVal} (h:XOk Fl8 G):XOk Fv0 G:=h.more Fu9
theorem Ej6 {G:Nat->DVal} (h:XOk mq0 G) (H:Ab):Ae Tryz.prog G 21 [] H (Ba (.bool true) H):=(Fv1 (Fu8 (Fu6 (Fu4 (Fu2 (Fu0 (Ft8 (Ft6 (Ft4 (Ft2 (Ft0 (Fs8 (Fs6 (Fs4 (Fz3 (Fz1 (Fy9 (Fy7 (Fy5 (Fy3 (Fy1 (Fx9 (Fx7 (h)))))))))))))))))))))))).at (X:=Fv0) (List.mem_append_left _ (.head _)) H
end Go.Dl

-- Chapter 4: FormSames.
namespace Go.Dl
open Go Go.Proofs
set_option maxRecDepth 100000
section
variable (x:Fms)
theorem Nc:((Ue x).drop 9).take 36=Er x.s:=by rw[Ue,Dx _ _ 0,jJ,List.take_left' (Ag _)]
theorem Ja:((Ue x).drop 45).take 27=Fj x.d:=by
 rw[Ue,Dx _ _ 36,List.drop_left' (Ag _),List.take_left' (Ax _)]
theorem Bf0 (k:Nat):(Ue x)[72+k]? =(Cj x.p::Gh x.a::Cv x.c::Dp x.t)[k]? :=by
 have h1:Ue x=(dEx x.e++(Er x.s++Fj x.d))++(Cj x.p::Gh x.a::Cv x.c::Dp x.t):=by simp [Ue]
 rw[h1,List.getElem?_append_right (by simp [Ad,Ag,Ax])];congr 1;simp [Ad,Ag,Ax]
theorem Jb:(Ue x)[72]? =some (Cj x.p):=Bf0 x 0
theorem Jc:(Ue x)[73]? =some (Gh x.a):=Bf0 x 1
theorem Jd:(Ue x)[74]? =some (Cv x.c):=Bf0 x 2
theorem Je:((Ue x).drop 75).take 87=Dp x.t:=by
 have h1:Ue x=(dEx x.e++(Er x.s++(Fj x.d++ [Cj x.p,Gh x.a,Cv x.c])))++Dp x.t:=by simp [Ue]
 rw[h1,List.drop_left' (by simp [Ad,Ag,Ax]),List.take_of_length_le (by rw[Ed];omega)]
end
theorem Bf1 {α:Type} {f:α->α->Bool} (h: ∀x,f x x=true): ∀l,Ch6 f l l=true
 | []=>rfl
 | x::l=>by rw[Ch6,h,Bf1 h l];rfl
section
end
end Go.Dl

-- Chapter 4: FormTexts.
namespace Go.Dl
open Go Go.Proofs
set_option maxRecDepth 100000
attribute [go_sem] Jw Et4 Ch5
theorem Ej7 (G:Nat->DVal) (H:Ab) (p:Lin->Lin->Bool) (l m:List Lin) (g:FuncId) (hl:l.length<=1099511627776)
  (hp: ∀x∈l,∀y∈m,∀H,Ae Tryz.prog G g ([]++ [.agg (Eg x), .agg (Eg y)]++ []) H (Ba (.bool (p x y)) H)):
  Ae Tryz.prog G 180 [.vslice (l.flatMap Eg) l.length, .vslice (m.flatMap Eg) m.length, .func (.func g) [] []] H (Ba (.bool (eqF p l m)) H):=by
 refine Aa Tryz.func180 Tryz.call180 rfl (by kernel_rfl) ?_;by_cases hlen:l.length=m.length
 ·have hlen':(l.length:Int)=(m.length:Int):=by omega
  simp(disch:=omega)only[go_sem,hlen'];obtain⟨I,hI⟩: ∃I:Nat->(Nat->DVal)->Ab->Prop,∀k env heap,I k env heap↔(env 0= .vslice (l.flatMap Eg) l.length/\env 1= .vslice (m.flatMap Eg) m.length/\env 2= .func (.func g) [] []/\env 15= .vslice (l.flatMap Eg) l.length/\env 16=dI m.length/\env 17=dI k/\k<=l.length/\eqF p l m=eqF p (l.drop k) (m.drop k)/\Sub H heap):=⟨_,fun _ _ _=>Iff.rfl⟩;refine Dt1.run I (fun k=>l.length-k) 0 ((hI _ _ _).2 ?_) ?_
  ·simp(disch:=omega)only[go_sem];(repeat' apply And.intro)<;>(try first | rfl | assumption | omega);exact Sub.refl _
  ·intro k env heap hi;obtain⟨e0,e1,e2,e15,e16,e17,hk,hsm,hsub⟩:=(hI _ _ _).1 hi;have hfl:=Al Jw l;have hfm:=Al Jw m;by_cases hlt:k<l.length
   ·have hlt':(k:Int)<(m.length:Int):=by omega
    have hlt2:(k:Int)<(l.length:Int):=by omega
    have hkm:k<m.length:=by omega
    have Aw:=Bu Jw l k hlt;have hgetm:=Bu Jw m k hkm;have hwd:IntKind.i64.wrap ((k:Int)+1)=((k+1:Nat):Int):=by rw[IntKind.wrap_i64];omega
    simp(disch:=omega)only[go_sem,e0,e1,e2,e15,e16,e17,hlt',hlt2,Aw,hgetm,hfl,hfm,jD];intro r8 hr8;dsimp only at hr8;simp(disch:=omega)only[go_sem,e0,e1,e2,e15,e16,e17,hlt',hlt2,Aw,hgetm,hfl,hfm,jD];intro r9 hr9;dsimp only at hr9;obtain⟨m2,m1,hr9'⟩:=Ex8.1 hr9;simp(disch:=omega)only[go_sem,e0,e1,e2,e15,e16,e17,m1,m2,Aw,hgetm,hfl,hfm,jD];refine(hp l[k] (List.getElem_mem hlt) m[k] (List.getElem_mem hkm) _).mono ?_;rintro _ H1 ⟨rfl,rfl⟩;rw[Xg hlt hkm] at hsm;have hs1:=(hsub.new hr8 (some (DObj.cells (Eg l[k]) 158))).new hr9 (some (DObj.cells (Eg m[k]) 158));cases hb:p l[k] m[k] with
    | true=>
     rw[hb,jS] at hsm;simp(disch:=omega)only[go_sem,e0,e1,e2,e15,e16,e17];refine⟨k+1,_,Ws.refl _,(hI _ _ _).2 ?_,by omega⟩;simp(disch:=omega)only[go_sem,e0,e1,e2,e15,e16,e17,hwd];(repeat' apply And.intro)<;>(try first | rfl | assumption | omega)
    | false=>
     rw[hb,jT] at hsm;simp(disch:=omega)only[go_sem,e0,e1,e2,e15,e16,e17];exact Wj.sub hs1 (Wj.refl ⟨by rw[hsm],rfl⟩)
   ·have:k=l.length:=by omega
    subst this;have hlt': ¬(l.length:Int)<(m.length:Int):=by omega
    simp(disch:=omega)only[go_sem,e0,e1,e2,e15,e16,e17,hlt'];refine Wj.sub hsub (Wj.refl ⟨?_,rfl⟩);rw[hsm,List.drop_length,hlen,List.drop_length];rfl
 ·have hlen': ¬(l.length:Int)=(m.length:Int):=by omega
  simp(disch:=omega)only[go_sem,hlen'];exact Wj.refl ⟨by rw[Aa4 hlen],rfl⟩
def Vz (x y:Lin):Bool:=decide (x.depth=y.depth)&&decide (x.l=y.l)
theorem Bz1 (x:Lin):Vz x x=true:=by simp [Vz]
theorem Ej8 (x:Lin):(Eg x)[0]? =some (dI x.depth):=rfl
theorem Ej9 (x:Lin):(Eg x)[1]? =some (Aq x.l):=rfl
theorem Cl9 (G:Nat->DVal) (H:Ab) (a b:Lin) (ha:a.l.length<=1000000000):Ae Tryz.prog G 181 ([]++ [.agg (Eg a), .agg (Eg b)]++ []) H (Ba (.bool (Vz a b)) H):=by
 refine Aa Tryz.func181 Tryz.call181 rfl (by kernel_rfl) ?_;simp(disch:=omega)only[go_sem,DVal.cells,jG,jH];intro r2 hr2;dsimp only at hr2;obtain⟨K2,hK2⟩: ∃K',K'=upd H r2 (some (.cells (Eg a) 158)):=⟨_,rfl⟩;rw[<-hK2];have gr2:K2 r2=some (.cells (Eg a) 158):=by rw[hK2];exact Ac _ _ _
 have sK2:Sub H K2:=by rw[hK2];exact(Sub.refl _).new hr2 _
 simp(disch:=omega)only[go_sem,DVal.cells,jG,jH];intro r3 hr3;dsimp only at hr3;obtain⟨K,hK⟩: ∃K',K'=upd K2 r3 (some (.cells (Eg b) 158)):=⟨_,rfl⟩;rw[<-hK];have gr3:K r3=some (.cells (Eg b) 158):=by rw[hK];exact Ac _ _ _
 have sK:Sub K2 K:=by rw[hK];exact(Sub.refl _).new hr3 _
 have g2:K r2=some (.cells (Eg a) 158):=sK _ _ gr2;have g3:=gr3;have t:Sub H K:=sK2.trans sK;clear sK sK2 gr3 gr2 hK hK2;by_cases h1:a.depth=b.depth
 ·simp(disch:=omega)only[go_sem,g2,g3,Jw,Ej8,Ej9,h1];refine Ae.monoR (Xl G K a.l b.l ha) ?_;simp(disch:=omega)only[go_sem,g2,g3,Jw,Ej8,Ej9];exact Wj.sub t (.refl ⟨by simp [Vz,h1],rfl⟩)
 ·simp(disch:=omega)only[go_sem,g2,g3,Jw,Ej8,Ej9,h1];exact Wj.sub t (.refl ⟨by simp [Vz,h1],rfl⟩)
theorem Ar7 (G:Nat->DVal) (H:Ab) (l:List Lin) (hl:l.length<=1000000) (hL: ∀x∈l,x.l.length<=1000000000):Ae Tryz.prog G 61 [Bv8 l,Bv8 l] H (Ba (.bool true) H):=by
 refine Aa Tryz.func61 Tryz.call61 rfl (by kernel_rfl) ?_;simp(disch:=omega)only[go_sem,Bv8];refine Ae.monoR (Ej7 G H Vz l l 181 (by omega) fun x hx y _ K=>Cl9 G K x y (hL x hx)) ?_;rw[<-Bm6 Vz l l,Bf1 Bz1];simp(disch:=omega)only[go_sem];exact Wj.refl ⟨rfl,rfl⟩
theorem Ek0 (s:Ind):(Aq8 s).1.length<=1000000:=by
 rw[Aq8];split
 ·have:=Js ‹_›;dsimp only;omega
 ·simp
theorem Ek1 (s:Dis):(Aq9 s).1.length<=1000000:=by
 rw[Aq9];split
 ·have:=Ys ‹_›;dsimp only;omega
 ·simp
theorem Ek2 (l:List Par):(Ar0 l).1.length<=1000000:=by
 rw[Ar0];split
 ·rename_i h
  rw[Hx,jF,decide_eq_true_eq] at h;have h8:=Ey4 h.1 h.2;have:=Ag4 (List.all_eq_true.1 h.1) l.length (Nat.le_refl _);rw[List.take_length] at this;dsimp only;omega
 ·simp
theorem Ek3 (l:List Asp):(Ar1 l).1.length<=1000000:=by
 rw[Ar1];split
 ·rename_i h
  rw[Lb,jF,decide_eq_true_eq] at h;have:=Ag3 (List.all_eq_true.1 h.1) l.length (Nat.le_refl _);rw[List.take_length] at this;dsimp only;omega
 ·simp
theorem Bf2 {l:List Cmp} (d:Int) (h: ∀c∈l,Fc c=true): ∀x∈Hz l d,x.l.length<=1000000:=by
 intro x hx;rw[Hz] at hx;split at hx
 ·simp at hx;subst hx;simp
 ·obtain⟨c,hc,rfl⟩:=List.mem_map.1 hx;have:=Dc4 (h c hc);dsimp only;omega
theorem Ek4 (l:List Cmp) (d:Int):(Ag5 l d).1.length<=1000000/\ ∀x∈(Ag5 l d).1,x.l.length<=1000000000:=by
 rw[Ag5];split
 ·rename_i h
  rw[Lu,jF,decide_eq_true_eq] at h;have h40:=Bc4 h.1 h.2;have h2:=Jx l d;refine⟨by dsimp only;omega,fun x hx=> ?_⟩;have:=Bf2 d (List.all_eq_true.1 h.1) x hx;omega
 ·simp
theorem Ew7 {t:Typ} (d:Int) (h:Hd t=true):(Xo t d).length<=1000000/\ ∀x∈Xo t d,x.l.length<=1000000000:=by
 obtain⟨h40,ha40⟩:=Dd0 h;simp only[Hd,jF,decide_eq_true_eq] at h;obtain⟨⟨⟨⟨⟨hcm,-⟩,ha16⟩,-⟩,harm⟩,-⟩:=h;have h1:=Jx t.comps (Fg (d+1));have h2:=Nt d t.arms ha40;have hm: ∀x∈Ip t d,x.l.length<=1000000000:=by
  intro x hx;rw[Ip] at hx;rcases List.mem_cons.1 hx with rfl | hx
  ·simp
  ·split at hx
   ·cases hx
   ·have:=Bf2 _ (List.all_eq_true.1 hcm) x hx;omega
 have hl:(Ip t d).length<=100:=by
  rw[Ip,jA];split
  ·simp
  ·omega
 have hta: ∀x∈t.arms.flatMap (Jf d),x.l.length<=1000000000:=by
  intro x hx;obtain⟨a,ha,hx⟩:=List.mem_flatMap.1 hx;have hb:=List.all_eq_true.1 harm a ha;rw[Gu,jF] at hb;rw[Jf] at hx;rcases List.mem_cons.1 hx with rfl | hx
  ·have:=Po a.c;simp;omega
  ·have:=Bf2 _ (List.all_eq_true.1 hb.1) x hx;omega
 rw[Bv4];refine⟨?_,fun x hx=> ?_⟩
 ·rw[jC,Jz,jC];split
  ·simp only[jA,jB];omega
  ·simp only[jC,jA,jB];omega
 ·rcases List.mem_append.1 hx with hx | hx
  ·exact hm x hx
  ·rw[Jz] at hx;rcases List.mem_append.1 hx with hx | hx
   ·split at hx
    ·cases hx
    ·rcases List.mem_cons.1 hx with rfl | hx
     ·simp [Ib]
     ·rcases List.mem_append.1 hx with hx | hx
      ·exact hta x hx
      ·simp at hx;subst hx;simp
   ·simp at hx;subst hx;simp
theorem Ek5 (t:Typ) (d:Int):(Ag6 t d).1.length<=1000000/\ ∀x∈(Ag6 t d).1,x.l.length<=1000000000:=by
 rw[Ag6];split
 ·rename_i h
  obtain⟨k1,k2,k3,k6,k4,k5,hkk⟩:=Au7 h;dsimp only;rw[Gg];split
  ·have:=Iy (k1 ‹_›);refine⟨by simp,fun x hx=> ?_⟩;simp at hx;subst hx;simp;omega
  split
  ·have:=Oo (k2 ‹_›).1 (k2 ‹_›).2;refine⟨by simp,fun x hx=> ?_⟩;simp at hx;subst hx;simp;omega
  split
  ·have:=Js (k3 ‹_›);refine⟨by simp,fun x hx=> ?_⟩;simp at hx;subst hx;simp;omega
  split
  ·have:=Js (k4 ‹_›).1;have:=Ys (k4 ‹_›).2;refine⟨by simp,fun x hx=> ?_⟩;simp at hx;subst hx;simp;omega
  split
  ·have:=Js (k6 ‹_›);refine⟨by simp,fun x hx=> ?_⟩;simp at hx;subst hx;simp;omega
  split
  ·refine⟨by simp,fun x hx=> ?_⟩;simp at hx;subst hx;dsimp only;split<;>simp
  split
  ·refine⟨by simp,fun x hx=> ?_⟩;simp at hx;subst hx;simp
  ·exact Ew7 d (k5 (by omega))
 ·simp
section
variable {G:Nat->DVal} (hG:GX G) (H:Ab)
include hG
set_option maxHeartbeats 40000000 in
theorem Bf3 (x:Fms) (d:Int) (hx:Dc2 1048576 x):Ae Tryz.prog G 6 [.agg (Ue x),dI d] H (Ba (.bool true) H):=by
 have xG:=Fx5 hG;have l1:=Ek0 x.s;have l2:=Ek1 x.d;have l3:=Ek2 x.p;have l4:=Ek3 x.a;have l5:=Ek4 x.c d;have l6:=Ek5 x.t d;refine Aa Tryz.func6 Tryz.call6 rfl (by kernel_rfl) ?_;simp(disch:=omega)only[go_sem,DVal.cells];intro r2 hr2;dsimp only at hr2;obtain⟨K,hK⟩: ∃K',K'=upd H r2 (some (.cells (Ue x) 101)):=⟨_,rfl⟩;rw[<-hK];have gr2:K r2=some (.cells (Ue x) 101):=by rw[hK];exact Ac _ _ _
 have sK:Sub H K:=by rw[hK];exact(Sub.refl _).new hr2 _
 simp(disch:=omega)only[go_sem,gr2,Fa,Nc,Ja,Jb,Jc,Jd,Je];refine Ae.monoR (Ag9 hG K x.s hx.2.1) ?_;try simp(disch:=omega)only[go_sem,gr2,Fa,Nc,Ja,Jb,Jc,Jd,Je]
 refine Ae.monoR (Ag7 G K x.s hx.2.1) ?_;try simp(disch:=omega)only[go_sem,gr2,Fa,Nc,Ja,Jb,Jc,Jd,Je]
 refine Ae.monoR (Am2 hG K x.d hx.2.2.1) ?_;try simp(disch:=omega)only[go_sem,gr2,Fa,Nc,Ja,Jb,Jc,Jd,Je]
 refine Ae.monoR (Am1 G K x.d hx.2.2.1) ?_;try simp(disch:=omega)only[go_sem,gr2,Fa,Nc,Ja,Jb,Jc,Jd,Je]
 refine Ae.monoR (Ah0 hG K x.p hx.2.2.2.1) ?_;try simp(disch:=omega)only[go_sem,gr2,Fa,Nc,Ja,Jb,Jc,Jd,Je]
 refine Ae.monoR (Ag8 G K x.p hx.2.2.2.1) ?_;try simp(disch:=omega)only[go_sem,gr2,Fa,Nc,Ja,Jb,Jc,Jd,Je]
 refine Ae.monoR (Ab6 hG K x.a hx.2.2.2.2.1) ?_;try simp(disch:=omega)only[go_sem,gr2,Fa,Nc,Ja,Jb,Jc,Jd,Je]
 refine Ae.monoR (Ab5 G K x.a hx.2.2.2.2.1) ?_;try simp(disch:=omega)only[go_sem,gr2,Fa,Nc,Ja,Jb,Jc,Jd,Je]
 refine Ae.monoR (At2 hG K x.c d hx.2.2.2.2.2.1) ?_;try simp(disch:=omega)only[go_sem,gr2,Fa,Nc,Ja,Jb,Jc,Jd,Je]
 refine Ae.monoR (At0 G K x.c d hx.2.2.2.2.2.1) ?_;try simp(disch:=omega)only[go_sem,gr2,Fa,Nc,Ja,Jb,Jc,Jd,Je]
 refine Ae.monoR (At3 hG K x.t d hx.2.2.2.2.2.2) ?_;try simp(disch:=omega)only[go_sem,gr2,Fa,Nc,Ja,Jb,Jc,Jd,Je]
 refine Ae.monoR (At1 G K x.t d hx.2.2.2.2.2.2) ?_;try simp(disch:=omega)only[go_sem,gr2,Fa,Nc,Ja,Jb,Jc,Jd,Je]
 refine Ae.monoR (Xl G K _ _ (by omega)) ?_;try simp(disch:=omega)only[go_sem,gr2,Fa,Nc,Ja,Jb,Jc,Jd,Je]
 refine Ae.monoR (Xl G K _ _ (by omega)) ?_;try simp(disch:=omega)only[go_sem,gr2,Fa,Nc,Ja,Jb,Jc,Jd,Je]
 refine Ae.monoR (Xl G K _ _ (by omega)) ?_;try simp(disch:=omega)only[go_sem,gr2,Fa,Nc,Ja,Jb,Jc,Jd,Je]
 refine Ae.monoR (Xl G K _ _ (by omega)) ?_;try simp(disch:=omega)only[go_sem,gr2,Fa,Nc,Ja,Jb,Jc,Jd,Je]
 refine Ae.monoR (Ar7 G K _ l5.1 l5.2) ?_;try simp(disch:=omega)only[go_sem,gr2,Fa,Nc,Ja,Jb,Jc,Jd,Je]
 refine Ae.monoR (Ar7 G K _ l6.1 l6.2) ?_;try simp(disch:=omega)only[go_sem,gr2,Fa,Nc,Ja,Jb,Jc,Jd,Je]
 refine Ae.monoR (Ej6 xG K) ?_;try simp(disch:=omega)only[go_sem,gr2,Fa,Nc,Ja,Jb,Jc,Jd,Je]
 exact Wj.sub sK (.refl ⟨rfl,rfl⟩)
end
end Go.Dl

-- THE READING, PART 1: what was read of the input before a call is read the same behind it, if the call left all old memory as it was.
namespace Go.Dl
open Go
section
variable {H:Type} {enc:TypeId×Value->H} {P:Program} {w w':World}
def Ac1 (w w':World):Prop:= ∀b,b<w.heap.size->w'.heap[b]? =w.heap[b]?
theorem Ac1.cell (h:Ac1 w w') {a:Addr} {x:Value} (hc:w.cell? a=some x):w'.cell? a=some x:=by
 have hlt:a.block<w.heap.size:=by
  unfold World.cell? at hc;rcases Nat.lt_or_ge a.block w.heap.size with hl | hl
  ·exact hl
  ·simp [Array.getElem?_eq_none hl] at hc
 unfold World.cell? at hc⊢
 rw[h _ hlt];exact hc
theorem Ox {α β:Type} {f g:α->Option β}: ∀ {l:List α} {r:List β},l.mapM f=some r->(∀x∈l,∀y,f x=some y->y∈r->g x=some y)->l.mapM g=some r
 | [],r,h,_=>by simpa using h
 | x::l,r,h,hg=>by
  rw[List.mapM_cons] at h⊢
  simp only[Option.bind_eq_bind,Option.bind_eq_some_iff,Option.pure_def,Option.some.injEq] at h⊢
  obtain⟨y,hy,ys,hys,rfl⟩:=h;exact⟨y,hg x (by simp) y hy (by simp),ys,Ox hys (fun z hz u hu hm=>hg z (by simp [hz]) u hu (by simp [hm])),rfl⟩
theorem Ac1.cells (h:Ac1 w w') {base:Nat} {a:Addr} {n:Nat} {cs:List Value} (hc:w.cells? base a n=some cs):w'.cells? base a n=some cs:=by
 unfold World.cells? at hc⊢
 split at hc
 ·rename_i hb;rw[if_pos hb];exact Ox hc fun i _ y hy _=>h.cell hy
 ·cases hc
structure Closed (P:Program) (T:TypeId->Prop):Prop where
 ptr: ∀t e,T t->P.underlying t=some (.pointer e)->T e
 slice: ∀t e,T t->P.underlying t=some (.slice e)->0<P.cellsOf e/\T e
 struct: ∀t fs,T t->P.underlying t=some (.struct fs)-> ∀f∈fs.toList,T f.type
 array: ∀t n e,T t->P.underlying t=some (.array n e)->T e
 iface: ∀t m,T t->P.underlying t≠some (.interface m)
 map: ∀t k e,T t->P.underlying t=some (.map k e)->T e
def Df6 (P:Program) (ts:List TypeId):Bool:=ts.all fun t=>match P.underlying t with
 | some (.pointer e)=>ts.contains e
 | some (.slice e)=>decide (0<P.cellsOf e)&&ts.contains e
 | some (.struct fs)=>fs.toList.all fun f=>ts.contains f.type
 | some (.array _ e)=>ts.contains e
 | some (.interface _)=>false
 | some (.map _ e)=>ts.contains e
 | _=>true
theorem Dr7 {P:Program} {ts:List TypeId} (h:Df6 P ts=true):Closed P (· ∈ts):=by
 unfold Df6 at h;rw[List.all_eq_true] at h;refine⟨fun t e ht hu=> ?_,fun t e ht hu=> ?_,fun t fs ht hu=> ?_,fun t n e ht hu=> ?_,fun t m ht hu=> ?_,fun t k e ht hu=> ?_⟩;all_goals have h1:=h t ht;rw[hu] at h1
 ·simpa using h1
 ·simpa using h1
 ·intro f hf;simpa using List.all_eq_true.1 h1 f hf
 ·simpa using h1
 ·cases h1
 ·simpa using h1
theorem Bo4 (h:Ac1 w w') {T:TypeId->Prop} (hT:Closed P T) {base:Nat} {sp:Nat->Bool} {held:Bool}:
  ∀(Dk:Nat) (t:TypeId) (cs:List Value) (d:DataW H) (ps:List MemPlace),T t->DataW.trod enc P w base (fun _=>true) held Dk t cs=some (d,ps)->(∀p∈ps,sp p.block=true)->
   DataW.trod enc P w' base sp held Dk t cs=some (d,ps)
 | 0,_,_,_,_,_,hh,_=>by simp [DataW.trod] at hh
 | Dk+1,t,cs,d,ps,ht,hh,hp=>by
  have ih:= @Bo4 h T hT base sp held Dk;unfold DataW.trod at hh⊢
  split at hh<;>(try (first | exact hh | (simp at hh;done)))
  ·-- pointer
   rename_i e a hu
   simp only[Option.map_eq_some_iff,Option.bind_eq_some_iff,Prod.mk.injEq] at hh⊢
   obtain⟨x,⟨c,hc,hx⟩,rfl,rfl⟩:=hh;exact⟨x,⟨c,h.cells hc,ih _ _ x.1 x.2 (hT.ptr _ _ ht hu) hx fun p hpm=>hp p (by simp [hpm])⟩,rfl,rfl⟩
  ·-- slice
   rename_i e a len cap hu
   dsimp only at hh⊢
   split at hh
   ·rename_i hc
    rw[if_pos hc];simp only[Option.bind_eq_some_iff,Option.map_eq_some_iff,if_true,Prod.mk.injEq] at hh⊢
    obtain⟨elems,he,rest,hr,rfl,rfl⟩:=hh;have hp1: ∀y∈elems,∀p∈y.2,sp p.block=true:=fun y hy p hpm=>hp p (by
     simp only[List.mem_append,List.mem_flatMap];exact .inr ⟨y, .inl hy,hpm⟩)
    have hp2: ∀y∈rest,∀p∈y.2,sp p.block=true:=fun y hy p hpm=>hp p (by
     simp only[List.mem_append,List.mem_flatMap];exact .inr ⟨y, .inr hy,hpm⟩)
    refine⟨elems,Ox he (fun i _ y hy hym=> ?_),rest, ?_,rfl,rfl⟩
    ·simp only[Option.bind_eq_some_iff] at hy⊢
     obtain⟨c,hc1,hc2⟩:=hy;exact⟨c,h.cells hc1,ih _ _ y.1 y.2 (hT.slice _ _ ht hu).2 hc2 (hp1 y hym)⟩
    ·have hr':(List.range (cap-len)).mapM (fun j=>(w'.cells? base (a.add ((len+j)*P.cellsOf e)) (P.cellsOf e)).bind (DataW.trod enc P w' base sp held Dk e))=some rest:=by
      refine Ox hr (fun i _ y hy hym=> ?_);simp only[Option.bind_eq_some_iff] at hy⊢
      obtain⟨c,hc1,hc2⟩:=hy;exact⟨c,h.cells hc1,ih _ _ y.1 y.2 (hT.slice _ _ ht hu).2 hc2 (hp2 y hym)⟩
     by_cases hsp:sp a.block=true
     ·rw[if_pos hsp];exact hr'
     ·rw[if_neg hsp];have hpos:=(hT.slice t e ht hu).1;have hlen:rest.length=0:=by
       rcases Nat.eq_zero_or_pos rest.length with h0 | h0
       ·exact h0
       ·exfalso;refine hsp (hp (.cell a.block a.off) ?_);refine List.mem_append_left _ ?_;unfold MemPlace.row;refine List.mem_map.2 ⟨0,List.mem_range.2 (Nat.mul_pos (by omega) hpos),by simp⟩
      rw[List.eq_nil_of_length_eq_zero hlen]
   ·cases hh
  ·-- struct
   rename_i fs hu
   split at hh
   ·rename_i hl
    rw[if_pos hl];simp only[Option.map_eq_some_iff,Prod.mk.injEq] at hh⊢
    obtain⟨xs,hx,rfl,rfl⟩:=hh;exact⟨xs,Ox hx (fun f hf y hy hym=>ih _ _ y.1 y.2 (hT.struct _ _ ht hu f hf) hy fun p hpm=>hp p (List.mem_flatMap.2 ⟨y,hym,hpm⟩)),rfl,rfl⟩
   ·cases hh
  ·-- array
   rename_i hu
   split at hh
   ·rename_i hl
    rw[if_pos hl];simp only[Option.map_eq_some_iff,Prod.mk.injEq] at hh⊢
    obtain⟨xs,hx,rfl,rfl⟩:=hh;exact⟨xs,Ox hx (fun f hf y hy hym=>ih _ _ y.1 y.2 (hT.array _ _ _ ht hu) hy fun p hpm=>hp p (List.mem_flatMap.2 ⟨y,hym,hpm⟩)),rfl,rfl⟩
   ·cases hh
  ·-- interface
   rename_i hu
   exact(hT.iface _ _ ht hu).elim
  ·-- map
   rename_i k e b hu
   split at hh
   ·rename_i es clock hb
    have hlt:b<w.heap.size:=(Array.getElem?_eq_some_iff.1 hb).1;rw[h b hlt,hb];dsimp only at hh⊢
    split at hh
    ·rename_i hc
     rw[if_pos hc];simp only[Option.bind_eq_some_iff] at hh⊢
     obtain⟨entries,he,hr⟩:=hh;split at hr
     ·rename_i hri
      simp only[Option.some.injEq,Prod.mk.injEq] at hr;obtain⟨rfl,rfl⟩:=hr;refine⟨entries,Ox he (fun x _ y hy hym=> ?_),by rw[if_pos hri]⟩;simp only[Option.bind_eq_some_iff] at hy⊢
      obtain⟨key,hk,hy⟩:=hy;refine⟨key,hk, ?_⟩;split at hy
      ·rename_i hf
       rw[if_pos hf];simp only[Option.map_eq_some_iff] at hy⊢
       obtain⟨z,hz1,rfl⟩:=hy;exact⟨z,ih _ _ z.1 z.2 (hT.map _ _ _ ht hu) hz1 fun p hpm=>hp p (by
        simp only[List.mem_cons,List.mem_flatMap];exact .inr ⟨_,hym,hpm⟩),rfl⟩
      ·cases hy
     ·cases hr
    ·cases hh
   ·cases hh
theorem Trod.keep (h:Ac1 w w') {T:TypeId->Prop} (hT:Closed P T) {base:Nat} {sp:Nat->Bool} {held:Bool} {t:TypeId} {v:Value} {d:DataW H} {ps:List MemPlace}
  (ht:T t) (hh:DataW.Trod enc P w base (fun _=>true) held t v d ps) (hp: ∀p∈ps,sp p.block=true):DataW.Trod enc P w' base sp held t v d ps:=by
 obtain⟨Dk,hh⟩:=hh;exact⟨Dk,Bo4 h hT Dk _ _ _ _ ht hh hp⟩
theorem TrodAll.keep (h:Ac1 w w') {T:TypeId->Prop} (hT:Closed P T) {base:Nat} {sp:Nat->Bool} {held:Bool}:
  ∀ {ts:List TypeId} {vs:List Value} {ds:List (DataW H)} {ps:List MemPlace},(∀t∈ts,T t)->DataW.TrodAll enc P w base (fun _=>true) held ts vs ds ps->(∀p∈ps,sp p.block=true)->DataW.TrodAll enc P w' base sp held ts vs ds ps
 | [],[],[],_,_,hh,_=>hh
 | [],[],_::_,_,_,hh,_=>hh.elim
 | [],_::_,_,_,_,hh,_=>hh.elim
 | _::_,[],_,_,_,hh,_=>hh.elim
 | _::_,_::_,[],_,_,hh,_=>hh.elim
 | t::ts,v::vs,d::ds,_,ht,⟨p,q,h1,h2,rfl⟩,hp=>
  ⟨p,q,Trod.keep h hT (ht t (by simp)) h1 (fun x hx=>hp x (by simp [hx])),TrodAll.keep h hT (fun u hu=>ht u (by simp [hu])) h2 (fun x hx=>hp x (by simp [hx])),rfl⟩
end
end Go.Dl

-- THE READING, PART 2: what was read of the input is plain data, seen at the data level.
namespace Go.Dl
open Go Go.RowKit Go.Deep
def Il (P:Program) (H:Type) (w:World) (t:TypeId) (α:Type) (f:α->List DVal) (g:α->DataW H->Prop):Prop:=
 ∀(enc:TypeId×Value->H) base sp held Dk cs d ps,DataW.trod enc P w base sp held Dk t cs=some (d,ps)-> ∃x,g x d/\Be w (fun _=>none) (f x) cs
section
variable {P:Program} {H:Type} {w:World}
theorem An1 {a:Addr} {x:Value} (h:w.cell? a=some x):a.spot=none:=by
 unfold World.cell? at h;split at h
 ·split at h
  ·cases h
  ·rename_i hs;simpa using hs
 ·cases h
theorem Ul {α β:Type} {f:α->Option β}: ∀ {l:List α} {r:List β},l.mapM f=some r->r.length=l.length/\ ∀(i:Nat) (x:α),l[i]? =some x-> ∃y,r[i]? =some y/\f x=some y
 | [],r,h=>by simp at h;subst h;simp
 | x::l,r,h=>by
  rw[List.mapM_cons] at h;simp only[Option.bind_eq_bind,Option.bind_eq_some_iff,Option.pure_def,Option.some.injEq] at h;obtain⟨y,hy,ys,hys,rfl⟩:=h;obtain⟨h1,h2⟩:=Ul hys;refine⟨by simp [h1],fun i z hz=> ?_⟩;cases i with
  | zero=>simp at hz;subst hz;exact⟨y,rfl,hy⟩
  | succ i=>simp at hz;obtain⟨u,hu,hf⟩:=h2 i z hz;exact⟨u,by simpa using hu,hf⟩
theorem Ar8 {base:Nat} {a:Addr} {n:Nat} {cs:List Value} (h:w.cells? base a n=some cs):cs.length=n/\Le w a.block a.off cs:=by
 unfold World.cells? at h;split at h
 ·obtain⟨h1,h2⟩:=Ul h;rw[List.length_range] at h1;refine⟨h1,fun i x hx=> ?_⟩;have hi:i<n:=by
   have:=(List.getElem?_eq_some_iff.1 hx).1;omega
  obtain⟨y,hy,hc⟩:=h2 i i (by simp [hi]);rw[hx] at hy;cases hy;by_cases h0:i=0
  ·subst h0;have:a.add 0=a:=rfl;rw[this] at hc;have hs:=An1 hc;have:(⟨a.block,a.off+0,none⟩:Addr)=a:=by cases a;simp at hs⊢;exact hs.symm
   rw[this];exact hc
  ·have:a.add i=⟨a.block,a.off+i,none⟩:=by simp [Addr.add,h0]
   rw[<-this];exact hc
 ·cases h
theorem Le.append {b off:Nat} {xs ys:List Value} (h:Le w b off xs) (k:Le w b (off+xs.length) ys):Le w b off (xs++ys):=by
 intro i x hx;by_cases hi:i<xs.length
 ·rw[List.getElem?_append_left hi] at hx;exact h i x hx
 ·rw[List.getElem?_append_right (by omega)] at hx;have:=k (i-xs.length) x hx;rw[show off+xs.length+(i-xs.length)=off+i by omega] at this;exact this
theorem Hq {t:TypeId} {k:IntKind} (ht:P.underlying t=some (.int k)):Il P H w t Int (fun n=> [.int k n]) (fun n d=>(Lit.int k n).wf=true/\d= .lit (.int k n)):=by
 intro enc base sp held Dk cs d ps h;cases Dk with
 | zero=>simp [DataW.trod] at h
 | succ Dk=>
  unfold DataW.trod at h;rw[ht] at h;split at h<;>simp_all;obtain⟨⟨rfl,hw⟩,rfl,rfl⟩:=h;exact⟨_,⟨hw,rfl⟩,by simp [Be,Rel]⟩
theorem Cy2 {t:TypeId} (ht:P.underlying t=some .bool):Il P H w t Bool (fun b=> [.bool b]) (fun b d=>d= .lit (.bool b)):=by
 intro enc base sp held Dk cs d ps h;cases Dk with
 | zero=>simp [DataW.trod] at h
 | succ Dk=>
  unfold DataW.trod at h;rw[ht] at h;split at h<;>try (simp_all;done)
  simp only[Option.some.injEq,Prod.mk.injEq] at h;obtain⟨rfl,rfl⟩:=h;exact⟨_,rfl,by simp [Be,Rel]⟩
theorem Qo {t:TypeId} (ht:P.underlying t=some .string):Il P H w t (List UInt8) (fun s=> [.str s]) (fun s d=>s.length<=maxLen/\d= .lit (.string s)):=by
 intro enc base sp held Dk cs d ps h;cases Dk with
 | zero=>simp [DataW.trod] at h
 | succ Dk=>
  unfold DataW.trod at h;rw[ht] at h;split at h<;>simp_all
  rename_i s
  obtain⟨hl,rfl,rfl⟩:=h;exact⟨s.data.toList,⟨by simpa using hl,rfl⟩,by simp [Be,Rel]⟩
def Ai7 {α:Type} (g:α->DataW H->Prop):List α->List (DataW H)->Prop
 | [],[]=>True
 | x::xs,d::ds=>g x d/\Ai7 g xs ds
 | _,_=>False
theorem Ai7.append {α:Type} {g:α->DataW H->Prop}: ∀ {xs ys:List α} {ds es:List (DataW H)},Ai7 g xs ds->Ai7 g ys es->Ai7 g (xs++ys) (ds++es)
 | [],_,[],_,_,k=>k
 | [],_,_::_,_,h,_=>h.elim
 | _::_,_,[],_,h,_=>h.elim
 | x::xs,ys,d::ds,es,h,k=>⟨h.1,Ai7.append h.2 k⟩
theorem Nd {t e:TypeId} {α:Type} {f:α->List DVal} {g:α->DataW H->Prop} (ht:P.underlying t=some (.slice e)) (he:Il P H w e α f g):
  Il P H w t (List α) (fun xs=> [.vslice (xs.flatMap f) xs.length]) (fun xs d=>(d= .nil/\xs= [])\/ ∃es sp,d= .slice es sp/\xs.length<=maxLen/\Ai7 g xs es):=by
 intro enc base sp held Dk cs d ps h;rcases open_slice ht h with⟨rfl,hx⟩ | ⟨a,len,cap,m,n,D,Pl,rfl,hb,hl,hm,hmm,hx,hall⟩
 ·cases hx;exact⟨[], .inl ⟨rfl,rfl⟩,by simp [Be,Rel]⟩
 ·have hlm:len<=m:=by rw[hmm];split<;>omega
  simp only[Prod.mk.injEq] at hx;obtain⟨rfl,rfl⟩:=hx;have key: ∀k,k<=len-> ∃(xs:List α) (ys:List Value),xs.length=k/\Ai7 g xs ((List.range k).map D)/\ys.length=k*P.cellsOf e/\Le w a.block a.off ys/\Be w (fun _=>none) (xs.flatMap f) ys:=by
   intro k
   induction k with
   | zero=>intro _;exact⟨[],[],rfl,trivial,by simp,fun i x hx=>by simp at hx,by simp [Be]⟩
   | succ k ih=>
    intro hk;obtain⟨xs,ys,h1,h2,h3,h4,h5⟩:=ih (by omega);obtain⟨cs',g1,g2⟩:=hall k (by omega);obtain⟨x,hg,hr⟩:=he _ _ _ _ _ _ _ _ g2;obtain⟨c1,c2⟩:=Ar8 g1;refine⟨xs++ [x],ys++cs',by simp [h1], ?_,by simp only[jC,h3,c1,Nat.succ_mul],h4.append ?_, ?_⟩
    ·rw[List.range_succ,List.map_append];exact h2.append ⟨hg,trivial⟩
    ·rw[h3];have ha:(a.add (k*P.cellsOf e)).block=a.block/\(a.add (k*P.cellsOf e)).off=a.off+k*P.cellsOf e:=by
      unfold Addr.add;split
      ·rename_i h0;rw[h0];exact⟨rfl,rfl⟩
      ·exact⟨rfl,rfl⟩
     rw[ha.1,ha.2] at c2;exact c2
    ·rw[List.flatMap_append];simpa using h5.append hr
  obtain⟨xs,ys,h1,h2,h3,h4,h5⟩:=key len (Nat.le_refl _);refine⟨xs, .inr ⟨_,_,rfl,by omega,h2⟩, ?_⟩;have hrel:Rel w (fun _=>none) (.vslice (xs.flatMap f) xs.length) (.slice (some a) len cap):=by
   simp only[Rel];refine⟨some a,cap,by rw[h1],by omega, ?_⟩;cases hys:ys with
   | nil=>subst hys;left;exact List.eq_nil_of_length_eq_zero (by rw[h5.length];rfl)
   | cons y yr=>
    right;have h6:=h4 0 y (by rw[hys];rfl);have hpos:0<len/\0<P.cellsOf e:=by
     rw[hys] at h3;simp only[jA] at h3;constructor
     ·rcases Nat.eq_zero_or_pos len with h0 | h0
      ·subst h0;simp at h3
      ·exact h0
     ·rcases Nat.eq_zero_or_pos (P.cellsOf e) with h0 | h0
      ·rw[h0] at h3;simp at h3
      ·exact h0
    have hsp:a.spot=none:=by
     obtain⟨cs',g1,g2⟩:=hall 0 (by omega);unfold World.cells? at g1;split at g1
     ·obtain⟨_,m2⟩:=Ul g1;obtain⟨z,_,hz⟩:=m2 0 0 (by simp [hpos.2]);have:(a.add (0*P.cellsOf e)).add 0=a:=by simp [Addr.add]
      rw[this] at hz;exact An1 hz
     ·cases g1
    refine⟨a.block,a.off,ys,by cases a;simp at hsp⊢;exact hsp, .inr ⟨rfl,h4⟩,h5⟩
  simp only[Be];exact⟨_,_,rfl,hrel,rfl⟩
end
end Go.Dl

-- THE READING, PART 3: a law's call at the data level, as the row wants it.
namespace Go.Dl
open Go Go.RowKit
section
variable {P:Program} {w:World}
theorem Ext.stands {w':World} {H':Ab} (h:Ext (fun _=>none) w H' w'):Ac1 w w':=fun b hb=>h.block b hb rfl
def Ek6 (W w':World):Prop:=W.keptBut w' (fun _=>False)/\(∀a,a.block<W.heap.size->w'.frozen? a=W.frozen? a)/\W.heap.size<=w'.heap.size
theorem Ek6.frame {W w':World} (h:Ek6 W w') (may:MemPlace->Prop):W.keptBut w' may:=World.keptBut_mono (fun _ f=>f.elim) h.1
theorem Ext.grown {w':World} {H':Ab} (h:Ext (fun _=>none) w H' w'):Ek6 w w':=by
 refine⟨⟨h.os,h.output,fun i hi=> ?_⟩,fun a ha=>h.fz a ha rfl,h.size⟩;rw[h.block i hi rfl];cases ho:w.heap[i]? with
 | none=>simp
 | some o=>cases o<;>simp
theorem Bz2 (w:World):Br w (fun _=>none):=fun r o h=>by cases h
theorem Ae.row {G:Nat->DVal} {f:FuncId} {args:List DVal} {vs:Array Value} (h:Ae P G f args (fun _=>none) (fun e _=>e= .ret (.bool true))) (hv:Be w (fun _=>none) args vs.toList) (hG:GOk G w (fun _=>none)):
  Calls P f vs w fun e W'=>e= .returned (.bool true)/\Ek6 w W'/\Ac1 w W':=by
 have:=h.2 vs.toList w hv (Bz2 w) hG;simp only[Array.toArray_toList] at this;refine this.mono fun e w' ⟨e',H',he,hr,_,hE⟩=> ?_;subst he;cases hr with
 | ret d v hv=>simp only[Rel] at hv;subst hv;exact⟨rfl,hE.grown,hE.stands⟩
theorem Be.cons {Hp:Ab} {d:DVal} {v:Value} {ds:List DVal} {vs:List Value} (h:Rel w Hp d v) (k:Be w Hp ds vs):Be w Hp (d::ds) (v::vs):=by
 simp only[Be];exact⟨v,vs,rfl,h,k⟩
theorem Be.one {Hp:Ab} {d:DVal} {v:Value} (h:Be w Hp [d] [v]):Rel w Hp d v:=by
 simp only[Be] at h;obtain⟨y,ys,h1,h2,_⟩:=h;cases h1;exact h2
end
end Go.Dl
namespace Go.ChangeShapes
open Go.WideShapes
section
variable {H:Type} {enc:TypeId×Value->H} {P:Program}
theorem Cm0 {f:Func} {s:ChangeSpec} {apart fresh handsOn Ex5:Bool} {W W':World} {args:Array Value} {v:Value} {ds gs:List (DataW H)} {before pa pv:List MemPlace}
  (hW:DataW.Whole enc P f.params.toList s.vars apart W args.toList ds gs before)
  (hres: ∀(b:Nat) (sp:Nat->Bool) (hd:Bool),DataW.TrodAll enc P W' b sp hd f.resultTypes.toList (v.resultList f.resultTypes.size) (s.fn H (ds++gs)).results [])
  (hargs: ∀sp:Nat->Bool,(∀p∈before,sp p.block=true)->DataW.TrodAll enc P W' 0 sp true f.params.toList args.toList (s.fn H (ds++gs)).args pa)
  (hvars: ∀sp:Nat->Bool,(∀p∈before,sp p.block=true)->DataW.TrodVars enc P W' sp s.vars (s.fn H (ds++gs)).vars pv)
  (hps:before=pa++pv) (hk:W.keptBut W' (· ∈before)) (hfz: ∀a,a.block<W.heap.size->W'.frozen? a=W.frozen? a)
  (hok: ∀(j:Nat) (t:TypeId) (r:Value),f.resultTypes[j]? =some t->(v.resultList f.resultTypes.size)[j]? =some r->Value.okWide P W' .any 0 t r):
  s.post enc P f apart fresh handsOn Ex5 W args v W':=by
 have hlt:=hW.lt;have hold: ∀p∈before,(fun b=>decide (b<W.heap.size)) p.block=true:=fun p hp=>by simpa using hlt p hp
 refine⟨ds,gs,before,[],pa,pv,hW,hres _ _ _,hargs _ hold,hvars _ hold,World.keptBut_mono (fun p hp=>⟨hp, .inr (List.mem_append.1 (hps▸hp))⟩) hk,fun _=> ?_⟩;obtain⟨_,_,_,_,_,hz,hn⟩:=hW;refine⟨hok,_,_,([]++pa)++pv,⟨[]++pa,pv,trodAll_append (hargs _ (fun _ _=>rfl)) (hres _ _ _),hvars _ (fun _ _=>rfl),rfl, ?_, ?_⟩, ?_⟩
 ·intro b off hp;have hp':MemPlace.cell b off∈before:=by rw[hps];simpa using hp
  exact(hfz _ (hlt _ hp')).trans (hz b off hp')
 ·intro ha;have:=hn ha;rw[hps] at this;simpa using this
 ·intro p hp _;rw[hps];simpa using hp
end
end Go.ChangeShapes

-- THE READING, PART 4: an argument, as the data level sees it; a law's contract.
namespace Go.Dl
open Go Go.RowKit
section
variable {P:Program} {H:Type} {w:World}
theorem Bz3 {r:Reach} {base:Nat} {t:TypeId} {v:Value} {d:TypeDesc} (hu:P.underlying t=some d) (hd:(∃e,d= .slice e)\/(∃k,d= .int k)\/d= .bool\/d= .string) (h:Value.okWide P w r base t v):v.cells= #[v]:=by
 unfold Value.okWide at h;rw[hu] at h;cases v<;>first | rfl | skip
 rename_i xs
 rcases hd with⟨e,rfl⟩ | ⟨k,rfl⟩ | rfl | rfl<;>(unfold Cell.okWide at h;rw[hu] at h;simp [Cell.ok,hu] at h)
theorem Cy3 {r:Reach} {base:Nat} {t:TypeId} {k:IntKind} {v:Value} (hu:P.underlying t=some (.int k)) (h:Value.okWide P w r base t v):v.cells= #[v]:=Bz3 hu (.inr (.inl ⟨_,rfl⟩)) h
theorem Fl9 {t:TypeId} {α:Type} {f:α->DVal} {g:α->DataW H->Prop} (hr:Il P H w t α (fun x=> [f x]) g) {enc:TypeId×Value->H} {base:Nat} {sp:Nat->Bool} {held:Bool} {v:Value} {d:DataW H} {ps:List MemPlace}
  (h:DataW.Trod enc P w base sp held t v d ps) (hv:v.cells= #[v]): ∃x,g x d/\Rel w (fun _=>none) (f x) v:=by
 obtain⟨Dk,h⟩:=h;rw[hv] at h;obtain⟨x,hg,hx⟩:=hr _ _ _ _ _ _ _ _ h;exact⟨x,hg,hx.one⟩
end
end Go.Dl

-- THE READING, PART 5: the bound on what is read, at plain data.
namespace Go.Dl
open Go Go.RowKit Go.Proofs.YtlahodmjhbpfiaaGreatDoor
section
variable {H:Type}
theorem Cm1 (d:DataW H):1<=Rows.uptoBulk d:=by
 cases d
 case lit l=>cases l<;>simp only[Rows.uptoBulk]<;>omega
 all_goals simp only[Rows.uptoBulk]
 all_goals omega
theorem Cy4 {l:List (DataW H)} (h:Rows.uptoSmall H l=true):Rows.uptoBulkAll l<=1048576:=of_decide_eq_true h
theorem Cm2 {α:Type} {g:α->DataW H->Prop}: ∀ {xs:List α} {ds:List (DataW H)},Ai7 g xs ds->xs.length<=Rows.uptoBulkAll ds
 | [],[],_=>by simp
 | [],_::_,h=>h.elim
 | _::_,[],h=>h.elim
 | x::xs,d::ds,h=>by
  have:=Cm2 h.2;have:=Cm1 d;simp only[jA,Rows.uptoBulkAll];omega
def SlG {α:Type} (g:α->DataW H->Prop) (xs:List α) (d:DataW H):Prop:=(d= .nil/\xs= [])\/ ∃es sp,d= .slice es sp/\xs.length<=maxLen/\Ai7 g xs es
theorem Df7 {α:Type} {g:α->DataW H->Prop} {xs:List α} {d:DataW H} (h:SlG g xs d):xs.length+1<=Rows.uptoBulk d:=by
 rcases h with⟨rfl,rfl⟩ | ⟨es,sp,rfl,_,h⟩
 ·simp [Rows.uptoBulk]
 ·have:=Cm2 h;simp only[Rows.uptoBulk];omega
end
section
end
end Go.Dl

-- THE READING, PART 6: slices of any kind of int, structs.
namespace Go.Dl
open Go Go.RowKit Go.Proofs.YtlahodmjhbpfiaaGreatDoor
theorem Fm0 {k:IntKind} {n:Int} (h:(Lit.int k n).wf=true):k.min<=n/\n<=k.max:=by
 simpa [Lit.wf] using h
section
variable {P:Program} {H:Type} {w:World}
def Av6 (P:Program) (H:Type) (w:World) (fs:List Field) (off total:Nat) (α:Type) (f:α->List DVal) (g:α->List (DataW H)->Prop):Prop:=
 ∀(enc:TypeId×Value->H) base sp held Dk (cs:List Value) xs,cs.length=total->(fs.mapM fun fl=>DataW.trod enc P w base sp held Dk fl.type ((cs.drop fl.offset).take (P.cellsOf fl.type)))=some xs-> ∃x,g x (xs.map (·.1))/\Be w (fun _=>none) (f x) (cs.drop off)
theorem Ic (n:Nat):Av6 P H w [] n n Unit (fun _=> []) (fun _ ds=>ds= []):=by
 intro enc base sp held Dk cs xs hl h;simp at h;subst h;exact⟨(),rfl,by rw[List.drop_of_length_le (by omega)];simp [Be]⟩
theorem Bc {fl:Field} {fs:List Field} {off total n:Nat} {α β:Type} {f:α->List DVal} {g:α->DataW H->Prop} {f':β->List DVal} {g':β->List (DataW H)->Prop} (h1:Il P H w fl.type α f g) (ho:fl.offset=off) (hn:P.cellsOf fl.type=n)
  (h2:Av6 P H w fs (off+n) total β f' g'):Av6 P H w (fl::fs) off total (α×β) (fun x=>f x.1++f' x.2) (fun x ds=> ∃d ds',ds=d::ds'/\g x.1 d/\g' x.2 ds'):=by
 intro enc base sp held Dk cs xs hl h;rw[List.mapM_cons] at h;simp only[Option.bind_eq_bind,Option.bind_eq_some_iff,Option.pure_def,Option.some.injEq] at h;obtain⟨y,hy,ys,hys,rfl⟩:=h;obtain⟨x1,g1,r1⟩:=h1 enc base sp held Dk _ y.1 y.2 hy;obtain⟨x2,g2,r2⟩:=h2 enc base sp held Dk cs ys hl hys;refine⟨(x1,x2),⟨y.1,ys.map (·.1),by simp,g1,g2⟩, ?_⟩;rw[ho,hn] at r1;have:cs.drop off=(cs.drop off).take n++cs.drop (off+n):=by
  rw[<-List.drop_drop,List.take_append_drop]
 rw[this];exact r1.append r2
theorem Ie {t:TypeId} {fs:List Field} {α:Type} {f:α->List DVal} {g:α->List (DataW H)->Prop} (ht:P.underlying t=some (.struct fs.toArray)) (h:Av6 P H w fs 0 (P.cellsOf t) α f g):
  Il P H w t α f (fun x d=> ∃ds,d= .agg ds/\g x ds):=by
 intro enc base sp held Dk cs d ps hh;cases Dk with
 | zero=>simp [DataW.trod] at hh
 | succ Dk=>
  unfold DataW.trod at hh;rw[ht] at hh;dsimp only at hh;split at hh
  ·rename_i hl
   simp only[Option.map_eq_some_iff,Prod.mk.injEq] at hh;obtain⟨xs,hx,rfl,rfl⟩:=hh;obtain⟨x,g1,r1⟩:=h enc base sp held Dk cs xs hl hx;exact⟨x,⟨_,rfl,g1⟩,by simpa using r1⟩
  ·cases hh
theorem Il.map {t:TypeId} {α β:Type} {f:α->List DVal} {g:α->DataW H->Prop} (h:Il P H w t α f g) {f':β->List DVal} {g':β->DataW H->Prop} (c: ∀x d,g x d-> ∃y,f' y=f x/\g' y d):Il P H w t β f' g':=by
 intro enc base sp held Dk cs d ps hh;obtain⟨x,g1,r1⟩:=h enc base sp held Dk cs d ps hh;obtain⟨y,e,g2⟩:=c x d g1;exact⟨y,g2,by rw[e];exact r1⟩
theorem Ew8 {t:TypeId} {α:Type} {f:α->List DVal} {g:α->DataW H->Prop} (hr:Il P H w t α f g) {enc:TypeId×Value->H} {base:Nat} {sp:Nat->Bool} {held:Bool} {v:Value} {d:DataW H} {ps:List MemPlace}
  (h:DataW.Trod enc P w base sp held t v d ps) (hv: ∃xs,v= .agg xs): ∃x,g x d/\Rel w (fun _=>none) (.agg (f x)) v:=by
 obtain⟨Dk,h⟩:=h;obtain⟨xs,rfl⟩:=hv;obtain⟨x,hg,hx⟩:=hr _ _ _ _ _ _ _ _ h;exact⟨x,hg,by simp only[Rel];exact⟨xs,rfl,by simpa [Value.cells] using hx⟩⟩
theorem Fm1 {r:Reach} {base:Nat} {t:TypeId} {v:Value} {fs:Array Field} (hu:P.underlying t=some (.struct fs)) (h:Value.okWide P w r base t v): ∃xs,v= .agg xs:=by
 unfold Value.okWide at h;rw[hu] at h;cases v<;>first | exact⟨_,rfl⟩ | (exfalso;revert h;unfold Cell.okWide;rw[hu];simp [Cell.ok,hu];done) | skip
end
end Go.Dl

-- Chapter 3: the reading of expressions: data that hold data of their own kind.
namespace Go.Dl
open Go Go.RowKit Go.Deep Go.Proofs Go.Proofs.YtlahodmjhbpfiaaGreatDoor
set_option maxRecDepth 100000
section
variable {P:Program} {H:Type} {w:World}
def Mh (N:Nat) (P:Program) (H:Type) (w:World) (t:TypeId) (α:Type) (f:α->List DVal) (g:α->DataW H->Prop):Prop:=
 ∀(enc:TypeId×Value->H) base sp held Dk cs d ps,DataW.trod enc P w base sp held Dk t cs=some (d,ps)->Rows.uptoBulk d<=N-> ∃x,g x d/\Be w (fun _=>none) (f x) cs
def Ai8 (N:Nat) (P:Program) (H:Type) (w:World) (fs:List Field) (off total:Nat) (α:Type) (f:α->List DVal) (g:α->List (DataW H)->Prop):Prop:=
 ∀(enc:TypeId×Value->H) base sp held Dk (cs:List Value) xs,cs.length=total->(fs.mapM fun fl=>DataW.trod enc P w base sp held Dk fl.type ((cs.drop fl.offset).take (P.cellsOf fl.type)))=some xs->(∀x∈xs,Rows.uptoBulk x.1<=N)-> ∃x,g x (xs.map (·.1))/\Be w (fun _=>none) (f x) (cs.drop off)
theorem Il.n {t:TypeId} {α:Type} {f:α->List DVal} {g:α->DataW H->Prop} (h:Il P H w t α f g) (N:Nat):Mh N P H w t α f g:=fun enc base sp held Dk cs d ps hh _=>h enc base sp held Dk cs d ps hh
theorem Bo5 {t:TypeId} {α:Type} {f:α->List DVal} {g:α->DataW H->Prop} (h: ∀N,Mh N P H w t α f g):Il P H w t α f g:=fun enc base sp held Dk cs d ps hh=>h _ enc base sp held Dk cs d ps hh (Nat.le_refl _)
theorem Mh.less {N M:Nat} {t:TypeId} {α:Type} {f:α->List DVal} {g:α->DataW H->Prop} (h:Mh N P H w t α f g) (hm:M<=N):Mh M P H w t α f g:=fun enc base sp held Dk cs d ps hh hb=>h enc base sp held Dk cs d ps hh (by omega)
theorem Cm3 {l:List (DataW H)} {d:DataW H} (h:d∈l):Rows.uptoBulk d<=Rows.uptoBulkAll l:=by
 induction l with
 | nil=>cases h
 | cons x l ih=>
  rw[Rows.uptoBulkAll];rcases List.mem_cons.1 h with rfl | h
  ·omega
  ·have:=ih h;omega
theorem Qp {N:Nat} {t e:TypeId} {α:Type} {f:α->List DVal} {g:α->DataW H->Prop} (ht:P.underlying t=some (.slice e)) (he:Mh N P H w e α f g):
  Mh N P H w t (List α) (fun xs=> [.vslice (xs.flatMap f) xs.length]) (SlG g):=by
 intro enc base sp held Dk cs d ps h hbulk;rcases open_slice ht h with⟨rfl,hx⟩ | ⟨a,len,cap,m,n,D,Pl,rfl,hb,hl,hm,hmm,hx,hall⟩
 ·cases hx;exact⟨[], .inl ⟨rfl,rfl⟩,by simp [Be,Rel]⟩
 ·have hlm:len<=m:=by rw[hmm];split<;>omega
  simp only[Prod.mk.injEq] at hx;obtain⟨rfl,rfl⟩:=hx;have hbk: ∀k,k<len->Rows.uptoBulk (D k)<=N:=fun k hk=>by
   have:=Cm3 (l:=(List.range len).map D) (List.mem_map.2 ⟨k,List.mem_range.2 hk,rfl⟩);rw[Rows.uptoBulk] at hbulk;omega
  have key: ∀k,k<=len-> ∃(xs:List α) (ys:List Value),xs.length=k/\Ai7 g xs ((List.range k).map D)/\ys.length=k*P.cellsOf e/\Le w a.block a.off ys/\Be w (fun _=>none) (xs.flatMap f) ys:=by
   intro k
   induction k with
   | zero=>intro _;exact⟨[],[],rfl,trivial,by simp,fun i x hx=>by simp at hx,by simp [Be]⟩
   | succ k ih=>
    intro hk;obtain⟨xs,ys,h1,h2,h3,h4,h5⟩:=ih (by omega);obtain⟨cs',g1,g2⟩:=hall k (by omega);obtain⟨x,hg,hr⟩:=he _ _ _ _ _ _ _ _ g2 (hbk k (by omega));obtain⟨c1,c2⟩:=Ar8 g1;refine⟨xs++ [x],ys++cs',by simp [h1], ?_,by simp only[jC,h3,c1,Nat.succ_mul],h4.append ?_, ?_⟩
    ·rw[List.range_succ,List.map_append];exact h2.append ⟨hg,trivial⟩
    ·rw[h3];have ha:(a.add (k*P.cellsOf e)).block=a.block/\(a.add (k*P.cellsOf e)).off=a.off+k*P.cellsOf e:=by
      unfold Addr.add;split
      ·rename_i h0;rw[h0];exact⟨rfl,rfl⟩
      ·exact⟨rfl,rfl⟩
     rw[ha.1,ha.2] at c2;exact c2
    ·rw[List.flatMap_append];simpa using h5.append hr
  obtain⟨xs,ys,h1,h2,h3,h4,h5⟩:=key len (Nat.le_refl _);refine⟨xs, .inr ⟨_,_,rfl,by omega,h2⟩, ?_⟩;have hrel:Rel w (fun _=>none) (.vslice (xs.flatMap f) xs.length) (.slice (some a) len cap):=by
   simp only[Rel];refine⟨some a,cap,by rw[h1],by omega, ?_⟩;cases hys:ys with
   | nil=>subst hys;left;exact List.eq_nil_of_length_eq_zero (by rw[h5.length];rfl)
   | cons y yr=>
    right;have h6:=h4 0 y (by rw[hys];rfl);have hpos:0<len/\0<P.cellsOf e:=by
     rw[hys] at h3;simp only[jA] at h3;constructor
     ·rcases Nat.eq_zero_or_pos len with h0 | h0
      ·subst h0;simp at h3
      ·exact h0
     ·rcases Nat.eq_zero_or_pos (P.cellsOf e) with h0 | h0
      ·rw[h0] at h3;simp at h3
      ·exact h0
    have hsp:a.spot=none:=by
     obtain⟨cs',g1,g2⟩:=hall 0 (by omega);unfold World.cells? at g1;split at g1
     ·obtain⟨_,m2⟩:=Ul g1;obtain⟨z,_,hz⟩:=m2 0 0 (by simp [hpos.2]);have:(a.add (0*P.cellsOf e)).add 0=a:=by simp [Addr.add]
      rw[this] at hz;exact An1 hz
     ·cases g1
    refine⟨a.block,a.off,y::yr,by cases a;simp at hsp⊢;exact hsp, .inr ⟨rfl,hys▸h4⟩,hys▸h5⟩
  simp only[Be];exact⟨_,_,rfl,hrel,rfl⟩
theorem Wa (N n:Nat):Ai8 N P H w [] n n Unit (fun _=> []) (fun _ ds=>ds= []):=fun enc base sp held Dk cs xs hl h _=>Ic n enc base sp held Dk cs xs hl h
theorem Dy {N:Nat} {fl:Field} {fs:List Field} {off total n:Nat} {α β:Type} {f:α->List DVal} {g:α->DataW H->Prop} {f':β->List DVal} {g':β->List (DataW H)->Prop} (h1:Mh N P H w fl.type α f g) (ho:fl.offset=off) (hn:P.cellsOf fl.type=n)
  (h2:Ai8 N P H w fs (off+n) total β f' g'):Ai8 N P H w (fl::fs) off total (α×β) (fun x=>f x.1++f' x.2) (fun x ds=> ∃d ds',ds=d::ds'/\g x.1 d/\g' x.2 ds'):=by
 intro enc base sp held Dk cs xs hl h hb;rw[List.mapM_cons] at h;simp only[Option.bind_eq_bind,Option.bind_eq_some_iff,Option.pure_def,Option.some.injEq] at h;obtain⟨y,hy,ys,hys,rfl⟩:=h;obtain⟨x1,g1,r1⟩:=h1 enc base sp held Dk _ y.1 y.2 hy (hb y (by simp));obtain⟨x2,g2,r2⟩:=h2 enc base sp held Dk cs ys hl hys fun x hx=>hb x (by simp [hx]);refine⟨(x1,x2),⟨y.1,ys.map (·.1),by simp,g1,g2⟩, ?_⟩;rw[ho,hn] at r1;have:cs.drop off=(cs.drop off).take n++cs.drop (off+n):=by
  rw[<-List.drop_drop,List.take_append_drop]
 rw[this];exact r1.append r2
theorem Tg {N:Nat} {t:TypeId} {fs:List Field} {α:Type} {f:α->List DVal} {g:α->List (DataW H)->Prop} (ht:P.underlying t=some (.struct fs.toArray)) (h:Ai8 N P H w fs 0 (P.cellsOf t) α f g):
  Mh (N+1) P H w t α f (fun x d=> ∃ds,d= .agg ds/\g x ds):=by
 intro enc base sp held Dk cs d ps hh hbulk;cases Dk with
 | zero=>simp [DataW.trod] at hh
 | succ Dk=>
  unfold DataW.trod at hh;rw[ht] at hh;dsimp only at hh;split at hh
  ·rename_i hl
   simp only[Option.map_eq_some_iff,Prod.mk.injEq] at hh;obtain⟨xs,hx,rfl,rfl⟩:=hh;obtain⟨x,g1,r1⟩:=h enc base sp held Dk cs xs hl hx fun y hy=>by
    have:=Cm3 (l:=xs.map (·.1)) (List.mem_map.2 ⟨y,hy,rfl⟩);rw[Rows.uptoBulk] at hbulk;omega
   exact⟨x,⟨_,rfl,g1⟩,by simpa using r1⟩
  ·cases hh
theorem Mh.map {N:Nat} {t:TypeId} {α β:Type} {f:α->List DVal} {g:α->DataW H->Prop} (h:Mh N P H w t α f g) {f':β->List DVal} {g':β->DataW H->Prop} (c: ∀x d,g x d-> ∃y,f' y=f x/\g' y d):Mh N P H w t β f' g':=by
 intro enc base sp held Dk cs d ps hh hb;obtain⟨x,g1,r1⟩:=h enc base sp held Dk cs d ps hh hb;obtain⟨y,e,g2⟩:=c x d g1;exact⟨y,g2,by rw[e];exact r1⟩
end
section
variable {H:Type} {w:World}
def GE (e:Ex) (d:DataW H):Prop:=Kj e<=Rows.uptoBulk d/\okE e
def GA (a:As) (d:DataW H):Prop:=Ae5 a<=Rows.uptoBulk d/\okA a
def GC (c:Ch) (d:DataW H):Prop:=Bg8 c<=Rows.uptoBulk d/\okC c
theorem Fa6: ∀ {l:List Ex} {ds:List (DataW H)},Ai7 GE l ds->Nx l<=Rows.uptoBulkAll ds/\okL l
 | [],[],_=>⟨Nat.le_refl _,trivial⟩
 | [],_::_,h=>h.elim
 | _::_,[],h=>h.elim
 | x::l,d::ds,h=>by
  obtain⟨a,b⟩:=Fa6 h.2;have:=h.1.1;rw[Nx,Rows.uptoBulkAll,okL];exact⟨by omega,h.1.2,b⟩
theorem Fa7: ∀ {l:List As} {ds:List (DataW H)},Ai7 GA l ds->Pg l<=Rows.uptoBulkAll ds/\Cf9 l
 | [],[],_=>⟨Nat.le_refl _,trivial⟩
 | [],_::_,h=>h.elim
 | _::_,[],h=>h.elim
 | x::l,d::ds,h=>by
  obtain⟨a,b⟩:=Fa7 h.2;have:=h.1.1;rw[Pg,Rows.uptoBulkAll,Cf9];exact⟨by omega,h.1.2,b⟩
theorem Fa8: ∀ {l:List Ch} {ds:List (DataW H)},Ai7 GC l ds->Lg l<=Rows.uptoBulkAll ds/\Az7 l
 | [],[],_=>⟨Nat.le_refl _,trivial⟩
 | [],_::_,h=>h.elim
 | _::_,[],h=>h.elim
 | x::l,d::ds,h=>by
  obtain⟨a,b⟩:=Fa8 h.2;have:=h.1.1;rw[Lg,Rows.uptoBulkAll,Az7];exact⟨by omega,h.1.2,b⟩
theorem Fv2 {l:List Ex} {d:DataW H} (h:SlG GE l d):Nx l+1<=Rows.uptoBulk d/\okL l:=by
 rcases h with⟨rfl,rfl⟩ | ⟨es,sp,rfl,_,h⟩
 ·exact⟨by simp [Nx,Rows.uptoBulk],trivial⟩
 ·have:=Fa6 h;exact⟨by rw[Rows.uptoBulk];omega,this.2⟩
theorem Fz4 {l:List As} {d:DataW H} (h:SlG GA l d):Pg l+1<=Rows.uptoBulk d/\Cf9 l:=by
 rcases h with⟨rfl,rfl⟩ | ⟨es,sp,rfl,_,h⟩
 ·exact⟨by simp [Pg,Rows.uptoBulk],trivial⟩
 ·have:=Fa7 h;exact⟨by rw[Rows.uptoBulk];omega,this.2⟩
theorem Fm2 {l:List Ch} {d:DataW H} (h:SlG GC l d):Lg l+1<=Rows.uptoBulk d/\Az7 l:=by
 rcases h with⟨rfl,rfl⟩ | ⟨es,sp,rfl,_,h⟩
 ·exact⟨by simp [Lg,Rows.uptoBulk],trivial⟩
 ·have:=Fa8 h;exact⟨by rw[Rows.uptoBulk];omega,this.2⟩
theorem Bo6 {N:Nat} (he:Mh N Tryz.prog H w 27 Ex dEx GE):Mh N Tryz.prog H w 47 Ch dCh GC:=by
 have h:=Tg (N:=N) (H:=H) (w:=w) Tryz.underlying47 (Dy (n:=1) ((Hq Tryz.underlying45).n N) rfl (by kernel_rfl) (Dy (n:=1) (Qp Tryz.underlying24 he) rfl (by kernel_rfl) (by
   rw[show Tryz.prog.cellsOf 47=0+1+1 by kernel_rfl];exact Wa _ _)))
 refine(h.less (Nat.le_succ N)).map fun x d hg=>⟨.mk x.1 x.2.1, ?_, ?_⟩
 ·rw[Aa1];rfl
 ·obtain⟨ds,rfl,d0,ds0,rfl,g0,d1,ds1,rfl,g1,_⟩:=hg;have:=Fv2 g1;exact⟨by rw[Bg8,Rows.uptoBulk,Rows.uptoBulkAll,Rows.uptoBulkAll];omega,by rw[okC];exact this.2⟩
theorem Dr8 {N:Nat} (he:Mh N Tryz.prog H w 27 Ex dEx GE):Mh N Tryz.prog H w 44 As dAs GA:=by
 have h:=Tg (N:=N) (H:=H) (w:=w) Tryz.underlying44 (Dy (n:=1) (Qp Tryz.underlying41 (Bo6 he)) rfl (by kernel_rfl) (Dy (n:=9) he rfl (by kernel_rfl) (by
   rw[show Tryz.prog.cellsOf 44=0+1+9 by kernel_rfl];exact Wa _ _)))
 refine(h.less (Nat.le_succ N)).map fun x d hg=>⟨.mk x.1 x.2.1, ?_, ?_⟩
 ·rw[Et5];simp
 ·obtain⟨ds,rfl,d0,ds0,rfl,g0,d1,ds1,rfl,g1,_⟩:=hg;have:=Fm2 g0;have:=g1.1;exact⟨by rw[Ae5,Rows.uptoBulk,Rows.uptoBulkAll,Rows.uptoBulkAll];omega,by rw[okA];exact⟨(Fm2 g0).2,g1.2⟩⟩
theorem An2: ∀N,Mh N Tryz.prog H w 27 Ex dEx GE
 | 0=>fun enc base sp held Dk cs d ps _ hb=>by have:=Cm1 d;omega
 | N+1=>by
  have he:=An2 N;have h:=Tg (N:=N) (H:=H) (w:=w) Tryz.underlying27 (Dy (n:=1) ((Hq Tryz.underlying22).n N) rfl (by kernel_rfl) (Dy (n:=1) ((Hq Tryz.underlying23).n N) rfl (by kernel_rfl)
   (Dy (n:=1) ((Hq Tryz.underlying2).n N) rfl (by kernel_rfl) (Dy (n:=1) ((Qo Tryz.underlying9).n N) rfl (by kernel_rfl)
   (Dy (n:=1) (Qp Tryz.underlying24 he) rfl (by kernel_rfl) (Dy (n:=1) (Qp Tryz.underlying25 (Dr8 he)) rfl (by kernel_rfl)
   (Dy (n:=1) ((Hq Tryz.underlying3).n N) rfl (by kernel_rfl) (Dy (n:=1) ((Hq Tryz.underlying3).n N) rfl (by kernel_rfl) (Dy (n:=1) ((Hq Tryz.underlying3).n N) rfl (by kernel_rfl) (by
   rw[show Tryz.prog.cellsOf 27=0+1+1+1+1+1+1+1+1+1 by kernel_rfl];exact Wa _ _))))))))))
  refine h.map fun x d hg=>⟨.mk x.1 x.2.1 x.2.2.1 x.2.2.2.1 x.2.2.2.2.1 x.2.2.2.2.2.1 x.2.2.2.2.2.2.1 x.2.2.2.2.2.2.2.1 x.2.2.2.2.2.2.2.2.1, ?_, ?_⟩
  ·rw[Bs8];rfl
  ·obtain⟨ds,rfl,d0,ds0,rfl,g0,d1,ds1,rfl,g1,d2,ds2,rfl,g2,d3,ds3,rfl,g3,d4,ds4,rfl,g4,d5,ds5,rfl,g5,_⟩:=hg;have h4:=Fv2 g4;have h5:=Fz4 g5;have h3:=g3.1;unfold maxLen at h3;exact⟨by rw[Kj,Rows.uptoBulk];simp only[Rows.uptoBulkAll];omega,by rw[okE];exact⟨h3,h4.2,h5.2⟩⟩
theorem Ig:Il Tryz.prog H w 27 Ex dEx GE:=Bo5 An2
theorem Dr9:Il Tryz.prog H w 41 (List Ch) (fun l=> [dCl l]) (SlG GC):=Nd Tryz.underlying41 (Bo5 fun N=>Bo6 (An2 N))
end
end Go.Dl

-- Chapter 4: the reading of forms.
namespace Go.Dl
open Go Go.RowKit Go.Deep Go.Proofs Go.Proofs.YtlahodmjhbpfiaaGreatDoor
set_option maxRecDepth 100000
section
variable {H:Type} {w:World}
theorem Bo7 {α:Type} {g:α->DataW H->Prop} {p:α->Prop} (hp: ∀x d,g x d->p x): ∀ {xs:List α} {ds:List (DataW H)},Ai7 g xs ds-> ∀x∈xs,p x
 | [],_,_,x,hx=>by cases hx
 | _::_,[],h,_,_=>h.elim
 | y::xs,d::ds,h,x,hx=>by
  rcases List.mem_cons.1 hx with rfl | hx
  ·exact hp _ _ h.1
  ·exact Bo7 hp h.2 x hx
theorem Ek7 {α:Type} {g:α->DataW H->Prop} {p:α->Prop} (hp: ∀x d,g x d->p x) {xs:List α} {d:DataW H} (h:SlG g xs d): ∀x∈xs,p x:=by
 rcases h with⟨rfl,rfl⟩ | ⟨es,sp,rfl,_,h⟩
 ·intro x hx;cases hx
 ·exact Bo7 hp h
theorem GE.fit {e:Ex} {d:DataW H} {n:Nat} (h:GE e d) (hn:Rows.uptoBulk d<=n):Ef n e:=⟨Nat.le_trans h.1 hn,h.2⟩
theorem Df8 {α:Type} {f:Nat->α->Prop} {l:List α} {d:DataW H} {n:Nat} (hf: ∀(n m:Nat) (x:α),f n x->n<=m->f m x) (h:SlG (fun x d=>f (Rows.uptoBulk d) x) l d) (hn:Rows.uptoBulk d<=n):Hf f n l:=by
 have hl:=Df7 h;refine⟨by omega,fun x hx=> ?_⟩;rcases h with⟨rfl,rfl⟩ | ⟨es,sp,rfl,_,h⟩
 ·cases hx
 ·have key: ∀ {l:List α} {es:List (DataW H)},Ai7 (fun x d=>f (Rows.uptoBulk d) x) l es-> ∀x∈l,f (Rows.uptoBulkAll es) x:=by
   intro l
   induction l with
   | nil=>intro es _ x hx;cases hx
   | cons y l ih=>
    intro es hes x hx;cases es with
    | nil=>exact hes.elim
    | cons e es=>
     rcases List.mem_cons.1 hx with rfl | hx
     ·exact hf _ _ _ hes.1 (by rw[Rows.uptoBulkAll];omega)
     ·exact hf _ _ _ (ih hes.2 x hx) (by rw[Rows.uptoBulkAll];omega)
  exact hf _ _ _ (key h x hx) (by rw[Rows.uptoBulk] at hn;omega)
theorem Ye:Il Tryz.prog H w 54 (List (List UInt8)) (fun l=> [dW l]) (fun l d=>Aq2 (Rows.uptoBulk d) l):=by
 have h:=Nd (H:=H) (w:=w) Tryz.underlying54 (Qo Tryz.underlying9);refine h.map fun x d hg=>⟨x, ?_, ?_⟩
 ·have e: ∀l:List (List UInt8),l.map DVal.str=l.flatMap fun s=> [DVal.str s]:=fun l=>by induction l<;>simp_all
  simp [dW,e]
 ·have hl:=Df7 hg;refine⟨by omega,fun s hs=> ?_⟩;exact Ek7 (p:=fun s:List UInt8=>s.length<=9223372036854775807) (fun s d h=>by have:=h.1;unfold maxLen at this;exact this) hg s hs
theorem An3:Il Tryz.prog H w 56 Ind Er (fun s d=>Uf (Rows.uptoBulk d) s):=by
 have h:=Ie (H:=H) (w:=w) Tryz.underlying56 (Bc (n:=9) Ig rfl (by kernel_rfl) (Bc (n:=9) Ig rfl (by kernel_rfl) (Bc (n:=9) Ig rfl (by kernel_rfl) (Bc (n:=9) Ig rfl (by kernel_rfl) (by
   rw[show Tryz.prog.cellsOf 56=0+9+9+9+9 by kernel_rfl];exact Ic _)))))
 refine h.map fun x d hg=>⟨⟨x.1,x.2.1,x.2.2.1,x.2.2.2.1⟩,by simp [Er], ?_⟩;obtain⟨ds,rfl,d0,ds0,rfl,g0,d1,ds1,rfl,g1,d2,ds2,rfl,g2,d3,ds3,rfl,g3,_⟩:=hg;exact⟨g0.fit (by rw[Rows.uptoBulk];simp only[Rows.uptoBulkAll];omega),g1.fit (by rw[Rows.uptoBulk];simp only[Rows.uptoBulkAll];omega),g2.fit (by rw[Rows.uptoBulk];simp only[Rows.uptoBulkAll];omega),g3.fit (by rw[Rows.uptoBulk];simp only[Rows.uptoBulkAll];omega)⟩
theorem Bo8:Il Tryz.prog H w 58 Dis Fj (fun s d=>Wf (Rows.uptoBulk d) s):=by
 have h:=Ie (H:=H) (w:=w) Tryz.underlying58 (Bc (n:=9) Ig rfl (by kernel_rfl) (Bc (n:=9) Ig rfl (by kernel_rfl) (Bc (n:=9) Ig rfl (by kernel_rfl) (by
   rw[show Tryz.prog.cellsOf 58=0+9+9+9 by kernel_rfl];exact Ic _))))
 refine h.map fun x d hg=>⟨⟨x.1,x.2.1,x.2.2.1⟩,by simp [Fj], ?_⟩;obtain⟨ds,rfl,d0,ds0,rfl,g0,d1,ds1,rfl,g1,d2,ds2,rfl,g2,_⟩:=hg;exact⟨g0.fit (by rw[Rows.uptoBulk];simp only[Rows.uptoBulkAll];omega),g1.fit (by rw[Rows.uptoBulk];simp only[Rows.uptoBulkAll];omega),g2.fit (by rw[Rows.uptoBulk];simp only[Rows.uptoBulkAll];omega)⟩
theorem Ds0:Il Tryz.prog H w 97 Par Lc (fun s d=>Xr (Rows.uptoBulk d) s):=by
 have h:=Ie (H:=H) (w:=w) Tryz.underlying97 (Bc (n:=1) Ye rfl (by kernel_rfl) (Bc (n:=1) (Hq Tryz.underlying95) rfl (by kernel_rfl) (Bc (n:=9) Ig rfl (by kernel_rfl) (Bc (n:=9) Ig rfl (by kernel_rfl) (Bc (n:=1) (Hq Tryz.underlying3) rfl (by kernel_rfl) (by
   rw[show Tryz.prog.cellsOf 97=0+1+1+9+9+1 by kernel_rfl];exact Ic _))))))
 refine h.map fun x d hg=>⟨⟨x.1,x.2.1,x.2.2.1,x.2.2.2.1,x.2.2.2.2.1⟩,by simp [Lc], ?_⟩;obtain⟨ds,rfl,d0,ds0,rfl,g0,d1,ds1,rfl,g1,d2,ds2,rfl,g2,d3,ds3,rfl,g3,d4,ds4,rfl,g4,_⟩:=hg;exact⟨g0.up (by rw[Rows.uptoBulk];simp only[Rows.uptoBulkAll];omega),g2.fit (by rw[Rows.uptoBulk];simp only[Rows.uptoBulkAll];omega),g3.fit (by rw[Rows.uptoBulk];simp only[Rows.uptoBulkAll];omega)⟩
theorem Ds1:Il Tryz.prog H w 198 Asp Qj (fun s d=>Zc (Rows.uptoBulk d) s):=by
 have h:=Ie (H:=H) (w:=w) Tryz.underlying198 (Bc (n:=1) (Qo Tryz.underlying9) rfl (by kernel_rfl) (Bc (n:=9) Ig rfl (by kernel_rfl) (by
   rw[show Tryz.prog.cellsOf 198=0+1+9 by kernel_rfl];exact Ic _)))
 refine h.map fun x d hg=>⟨⟨x.1,x.2.1⟩,by simp [Qj], ?_⟩;obtain⟨ds,rfl,d0,ds0,rfl,g0,d1,ds1,rfl,g1,_⟩:=hg;have h0:=g0.1;unfold maxLen at h0;exact⟨h0,g1.fit (by rw[Rows.uptoBulk];simp only[Rows.uptoBulkAll];omega)⟩
theorem Ds2:Il Tryz.prog H w 99 Cmp Lj (fun s d=>Oc (Rows.uptoBulk d) s):=by
 have h:=Ie (H:=H) (w:=w) Tryz.underlying99 (Bc (n:=1) Ye rfl (by kernel_rfl) (Bc (n:=36) An3 rfl (by kernel_rfl) (Bc (n:=9) Ig rfl (by kernel_rfl) (Bc (n:=1) (Hq Tryz.underlying3) rfl (by kernel_rfl) (by
   rw[show Tryz.prog.cellsOf 99=0+1+36+9+1 by kernel_rfl];exact Ic _)))))
 refine h.map fun x d hg=>⟨⟨x.1,x.2.1,x.2.2.1,x.2.2.2.1⟩,by simp [Lj], ?_⟩;obtain⟨ds,rfl,d0,ds0,rfl,g0,d1,ds1,rfl,g1,d2,ds2,rfl,g2,d3,ds3,rfl,g3,_⟩:=hg;exact⟨g0.up (by rw[Rows.uptoBulk];simp only[Rows.uptoBulkAll];omega),g1.up (by rw[Rows.uptoBulk];simp only[Rows.uptoBulkAll];omega),g2.fit (by rw[Rows.uptoBulk];simp only[Rows.uptoBulkAll];omega)⟩
theorem Cy5:Il Tryz.prog H w 72 (List Par) (fun l=> [Cj l]) (fun l d=>Hf Xr (Rows.uptoBulk d) l):=
 (Nd Tryz.underlying72 Ds0).map fun x d hg=>⟨x,rfl,Df8 (fun _ _ _=>Xr.up) hg (Nat.le_refl _)⟩
theorem Cy6:Il Tryz.prog H w 87 (List Asp) (fun l=> [Gh l]) (fun l d=>Hf Zc (Rows.uptoBulk d) l):=
 (Nd Tryz.underlying87 Ds1).map fun x d hg=>⟨x,rfl,Df8 (fun _ _ _=>Zc.up) hg (Nat.le_refl _)⟩
theorem Ac2:Il Tryz.prog H w 59 (List Cmp) (fun l=> [Cv l]) (fun l d=>Hf Oc (Rows.uptoBulk d) l):=
 (Nd Tryz.underlying59 Ds2).map fun x d hg=>⟨x,rfl,Df8 (fun _ _ _=>Oc.up) hg (Nat.le_refl _)⟩
theorem Ds3:Il Tryz.prog H w 168 Arm Ud (fun s d=>Ch8 (Rows.uptoBulk d) s):=by
 have h:=Ie (H:=H) (w:=w) Tryz.underlying168 (Bc (n:=1) Dr9 rfl (by kernel_rfl) (Bc (n:=1) Ac2 rfl (by kernel_rfl) (by
   rw[show Tryz.prog.cellsOf 168=0+1+1 by kernel_rfl];exact Ic _)))
 refine h.map fun x d hg=>⟨⟨x.1,x.2.1⟩,by simp [Ud], ?_⟩;obtain⟨ds,rfl,d0,ds0,rfl,g0,d1,ds1,rfl,g1,_⟩:=hg;have h0:=Fm2 g0;exact⟨⟨by rw[Rows.uptoBulk];simp only[Rows.uptoBulkAll];omega,h0.2⟩,g1.up (fun _ _ _=>Oc.up) (by rw[Rows.uptoBulk];simp only[Rows.uptoBulkAll];omega)⟩
theorem Cy7:Il Tryz.prog H w 60 (List Arm) (fun l=> [Dm l]) (fun l d=>Hf Ch8 (Rows.uptoBulk d) l):=
 (Nd Tryz.underlying60 Ds3).map fun x d hg=>⟨x,rfl,Df8 (fun _ _ _=>Ch8.up) hg (Nat.le_refl _)⟩
theorem Ds4:Il Tryz.prog H w 62 Typ Dp (fun s d=>Np (Rows.uptoBulk d) s):=by
 have h:=Ie (H:=H) (w:=w) Tryz.underlying62 (Bc (n:=1) (Hq Tryz.underlying53) rfl (by kernel_rfl) (Bc (n:=1) Ye rfl (by kernel_rfl) (Bc (n:=9) Ig rfl (by kernel_rfl) (Bc (n:=9) Ig rfl (by kernel_rfl)
   (Bc (n:=36) An3 rfl (by kernel_rfl) (Bc (n:=27) Bo8 rfl (by kernel_rfl) (Bc (n:=1) Ac2 rfl (by kernel_rfl) (Bc (n:=1) (Qo Tryz.underlying9) rfl (by kernel_rfl)
   (Bc (n:=1) Cy7 rfl (by kernel_rfl) (Bc (n:=1) (Cy2 Tryz.underlying4) rfl (by kernel_rfl) (by
   rw[show Tryz.prog.cellsOf 62=0+1+1+9+9+36+27+1+1+1+1 by kernel_rfl];exact Ic _)))))))))))
 refine h.map fun x d hg=>⟨⟨x.1,x.2.1,x.2.2.1,x.2.2.2.1,x.2.2.2.2.1,x.2.2.2.2.2.1,x.2.2.2.2.2.2.1,x.2.2.2.2.2.2.2.1,x.2.2.2.2.2.2.2.2.1,x.2.2.2.2.2.2.2.2.2.1⟩,by simp [Dp], ?_⟩;obtain⟨ds,rfl,d0,ds0,rfl,g0,d1,ds1,rfl,g1,d2,ds2,rfl,g2,d3,ds3,rfl,g3,d4,ds4,rfl,g4,d5,ds5,rfl,g5,d6,ds6,rfl,g6,d7,ds7,rfl,g7,d8,ds8,rfl,g8,d9,ds9,rfl,g9,_⟩:=hg;have hk:=Fm0 g0.1;have h7:=g7.1;unfold maxLen at h7;have hb:Rows.uptoBulk (DataW.agg (d0::d1::d2::d3::d4::d5::d6::d7::d8::d9::ds9))=1+(Rows.uptoBulk d0+(Rows.uptoBulk d1+(Rows.uptoBulk d2+(Rows.uptoBulk d3+(Rows.uptoBulk d4+(Rows.uptoBulk d5+(Rows.uptoBulk d6+(Rows.uptoBulk d7+(Rows.uptoBulk d8+(Rows.uptoBulk d9+Rows.uptoBulkAll ds9)))))))))):=by
  rw[Rows.uptoBulk];simp only[Rows.uptoBulkAll];omega
 exact⟨g1.up (by omega),g2.fit (by omega),g3.fit (by omega),g4.up (by omega),g5.up (by omega),g6.up (fun _ _ _=>Oc.up) (by omega),⟨h7,hk.1,hk.2⟩,g8.up (fun _ _ _=>Ch8.up) (by omega)⟩
theorem Ds5:Il Tryz.prog H w 101 Fms Ue (fun s d=>Dc2 (Rows.uptoBulk d) s):=by
 have h:=Ie (H:=H) (w:=w) Tryz.underlying101 (Bc (n:=9) Ig rfl (by kernel_rfl) (Bc (n:=36) An3 rfl (by kernel_rfl) (Bc (n:=27) Bo8 rfl (by kernel_rfl) (Bc (n:=1) Cy5 rfl (by kernel_rfl)
   (Bc (n:=1) Cy6 rfl (by kernel_rfl) (Bc (n:=1) Ac2 rfl (by kernel_rfl) (Bc (n:=87) Ds4 rfl (by kernel_rfl) (by
   rw[show Tryz.prog.cellsOf 101=0+9+36+27+1+1+1+87 by kernel_rfl];exact Ic _))))))))
 refine h.map fun x d hg=>⟨⟨x.1,x.2.1,x.2.2.1,x.2.2.2.1,x.2.2.2.2.1,x.2.2.2.2.2.1,x.2.2.2.2.2.2.1⟩,by simp [Ue], ?_⟩;obtain⟨ds,rfl,d0,ds0,rfl,g0,d1,ds1,rfl,g1,d2,ds2,rfl,g2,d3,ds3,rfl,g3,d4,ds4,rfl,g4,d5,ds5,rfl,g5,d6,ds6,rfl,g6,_⟩:=hg;have hb:Rows.uptoBulk (DataW.agg (d0::d1::d2::d3::d4::d5::d6::ds6))=1+(Rows.uptoBulk d0+(Rows.uptoBulk d1+(Rows.uptoBulk d2+(Rows.uptoBulk d3+(Rows.uptoBulk d4+(Rows.uptoBulk d5+(Rows.uptoBulk d6+Rows.uptoBulkAll ds6))))))):=by
  rw[Rows.uptoBulk];simp only[Rows.uptoBulkAll];omega
 exact⟨g0.fit (by omega),g1.up (by omega),g2.up (by omega),g3.up (fun _ _ _=>Xr.up) (by omega),g4.up (fun _ _ _=>Zc.up) (by omega),g5.up (fun _ _ _=>Oc.up) (by omega),g6.up (by omega)⟩
end
end Go.Dl

-- THE READING, PART G: the package's variables that a row lists ('laid'), as the data level sees them.
namespace Go.Dl
open Go Go.RowKit
def Zh:DataW Unit->Bool
 | .lit (.bool _)=>true
 | .lit (.int _ _)=>true
 | .lit (.string _)=>true
 | .agg ds=>litsBs ds
 | _=>false
where litsBs:List (DataW Unit)->Bool
 | []=>true
 | d::ds=>Zh d&&litsBs ds
def Fh:DataW Unit->List Value
 | .lit (.bool b)=> [.bool b]
 | .lit (.int k n)=> [.int k n]
 | .lit (.string s)=> [.string ⟨⟨s⟩⟩]
 | .agg ds=>litCellss ds
 | _=> []
where litCellss:List (DataW Unit)->List Value
 | []=> []
 | d::ds=>Fh d++litCellss ds
theorem Bf4 {ds:List (DataW Unit)}:Zh.litsBs ds=true↔ ∀d∈ds,Zh d=true:=by
 induction ds with
 | nil=>simp [Zh.litsBs]
 | cons d ds ih=>simp [Zh.litsBs,ih]
theorem Ai9 (ds:List (DataW Unit)):Fh.litCellss ds=ds.flatMap Fh:=by
 induction ds with
 | nil=>rfl
 | cons d ds ih=>simp [Fh.litCellss,ih]
theorem Cy8 {α:Type} (cs:List α) (off size:Nat->Nat): ∀(n:Nat),(∀j,j<n->off (j+1)=off j+size j)->off 0=0->off n<=cs.length->(List.range n).flatMap (fun j=>(cs.drop (off j)).take (size j))=cs.take (off n)
 | 0,_,h0,_=>by simp [h0]
 | n+1,h,h0,hn=>by
  have hs:=h n (by omega);rw[List.range_succ,List.flatMap_append,Cy8 cs off size n (fun j hj=>h j (by omega)) h0 (by omega),hs];simp only[List.flatMap_cons,List.flatMap_nil,jH];rw[List.take_add]
theorem Bf5 {α β:Type} (xs:List α) (g:α->List β) (f:Nat->List β) (n:Nat) (hn:xs.length=n) (h: ∀(j:Nat) (x:α),xs[j]? =some x->f j=g x):(List.range n).flatMap f=xs.flatMap g:=by
 rw[List.flatMap_def,List.flatMap_def];congr 1;apply List.ext_getElem?;intro j;simp only[List.getElem?_map];by_cases hj:j<n
 ·rw[List.getElem?_eq_getElem (by omega:j<xs.length),List.getElem?_range hj];simp only[Option.map_some];rw[h j xs[j] (List.getElem?_eq_getElem (by omega))]
 ·rw[List.getElem?_eq_none (by omega:xs.length<=j),List.getElem?_eq_none (by simp;omega)];rfl
section
variable {P:Program} {w:World}
theorem An4 (hl:laidOutB P=true) {base:Nat} {sp:Nat->Bool}: ∀(Dk:Nat) (t:TypeId) (cs:List Value) (d:DataW Unit) (ps:List MemPlace),isVar P t=true->Zh d=true->
  DataW.trod (fun _=>()) P w base sp false Dk t cs=some (d,ps)->cs=Fh d
 | 0,_,_,_,_,_,_,h=>by simp [DataW.trod] at h
 | Dk+1,t,cs,d,ps,hv,hd,h=>by
  have ih:= @An4 hl base sp Dk;have hlt:t<P.types.size:=by simp only[isVar,jF,decide_eq_true_eq] at hv;exact hv.1
  have hrow:=rowFine_of_laidOut hl hlt;simp only[rowFine,hv,Bool.not_true,Bool.false_or] at hrow;unfold DataW.trod at h;split at h<;>(try (simp at h;done))
  ·simp only[Option.some.injEq,Prod.mk.injEq] at h;obtain⟨rfl,rfl⟩:=h;rfl
  ·split at h
   ·rename_i hk
    obtain⟨rfl,_⟩:=hk;simp only[Option.some.injEq,Prod.mk.injEq] at h;obtain⟨rfl,rfl⟩:=h;rfl
   ·cases h
  ·split at h
   ·simp only[Option.some.injEq,Prod.mk.injEq] at h;obtain⟨rfl,rfl⟩:=h;cases hd
   ·cases h
  ·split at h
   ·simp only[Option.some.injEq,Prod.mk.injEq] at h;obtain⟨rfl,rfl⟩:=h;simp [Fh]
   ·cases h
  ·simp only[Option.some.injEq,Prod.mk.injEq] at h;obtain⟨rfl,rfl⟩:=h;cases hd
  ·simp only[Option.map_eq_some_iff,Prod.mk.injEq] at h;obtain⟨_,_,rfl,_⟩:=h;cases hd
  ·simp only[Option.some.injEq,Prod.mk.injEq] at h;obtain⟨rfl,rfl⟩:=h;cases hd
  ·dsimp only at h;split at h
   ·simp only[Option.bind_eq_some_iff,Option.map_eq_some_iff,Prod.mk.injEq] at h;obtain⟨_,_,_,_,rfl,_⟩:=h;cases hd
   ·cases h
  ·rename_i cs _ _ fs hu
   rw[hu] at hrow;simp only[jF,beq_iff_eq,List.all_eq_true] at hrow;obtain⟨⟨hf,hsum⟩,hoff⟩:=hrow;split at h
   ·rename_i hcl
    simp only[Option.map_eq_some_iff,Prod.mk.injEq] at h;obtain⟨xs,hx,rfl,rfl⟩:=h;obtain⟨hxl,hxg⟩:=Ul hx;simp only[Zh,Bf4] at hd;have key: ∀(j:Nat) (f:Field) (x:DataW Unit×List MemPlace),fs.toList[j]? =some f->xs[j]? =some x->(cs.drop f.offset).take (P.cellsOf f.type)=Fh x.1:=by
     intro j f x hjf hjx;obtain⟨y,hy,hfy⟩:=hxg j f hjf;rw[hjx] at hy;cases hy;exact ih _ _ x.1 x.2 (hf f (List.mem_of_getElem? hjf)) (hd _ (List.mem_map.2 ⟨x,List.mem_of_getElem? hjx,rfl⟩)) hfy
    have hp:=Cy8 cs (fun j=>((fs.toList.take j).map fun f=>P.cellsOf f.type).sum) (fun j=>(fs.toList[j]?).elim 0 fun f=>P.cellsOf f.type) fs.toList.length (fun j hj=>by
     rw[List.take_succ_eq_append_getElem hj];simp [List.getElem?_eq_getElem hj]) (by simp) (by rw[List.take_length,hcl,hsum];omega)
    simp only[List.take_length,<-hsum,<-hcl] at hp;rw[<-hp];simp only[Fh,Ai9,List.flatMap_map];refine Bf5 xs _ _ _ hxl fun j x hjx=> ?_;have hjx':j<xs.length:=(List.getElem?_eq_some_iff.1 hjx).1;have hj':j<fs.toList.length:=by omega
    have h1:=hoff j (List.mem_range.2 hj');rw[List.getElem?_eq_getElem hj'] at h1;simp only[beq_iff_eq] at h1;have h2:=key j fs.toList[j] x (List.getElem?_eq_getElem hj') hjx;rw[h1] at h2;simp only[List.getElem?_eq_getElem hj',Option.elim_some];exact h2
   ·cases h
  ·rename_i cs _ _ n e hu
   rw[hu] at hrow;simp only[jF,beq_iff_eq] at hrow;obtain⟨hf,hsum⟩:=hrow;split at h
   ·rename_i hcl
    simp only[Option.map_eq_some_iff,Prod.mk.injEq] at h;obtain⟨xs,hx,rfl,rfl⟩:=h;obtain⟨hxl,hxg⟩:=Ul hx;rw[List.length_range] at hxl;simp only[Zh,Bf4] at hd;have hp:=Cy8 cs (fun j=>j*P.cellsOf e) (fun _=>P.cellsOf e) n (fun j _=>Nat.succ_mul j _) (by simp) (by rw[hcl,hsum];exact Nat.le_refl _);rw[List.take_of_length_le (by rw[hcl,hsum];exact Nat.le_refl _)] at hp;rw[<-hp];simp only[Fh,Ai9,List.flatMap_map];refine Bf5 xs _ _ _ hxl fun j x hjx=> ?_;have hjx':j<xs.length:=(List.getElem?_eq_some_iff.1 hjx).1;obtain⟨y,hy,hfy⟩:=hxg j j (by rw[List.getElem?_range (by omega)]);rw[hjx] at hy;cases hy;exact ih _ _ _ _ hf (hd _ (List.mem_map.2 ⟨x,List.mem_of_getElem? hjx,rfl⟩)) hfy
   ·cases h
  ·simp only[Option.some.injEq,Prod.mk.injEq] at h;obtain⟨rfl,rfl⟩:=h;cases hd
  ·split at h
   ·rename_i e;cases e
   ·simp only[Option.map_eq_some_iff,Prod.mk.injEq] at h;obtain⟨_,_,rfl,_⟩:=h;cases hd
   ·cases h
  ·simp only[Option.some.injEq,Prod.mk.injEq] at h;obtain⟨rfl,rfl⟩:=h;cases hd
  ·split at h
   ·dsimp only at h;split at h
    ·simp only[Option.bind_eq_some_iff] at h;obtain⟨_,_,h⟩:=h;split at h
     ·simp only[Option.some.injEq,Prod.mk.injEq] at h;obtain⟨rfl,rfl⟩:=h;cases hd
     ·cases h
    ·cases h
   ·cases h
  ·simp only[Option.some.injEq,Prod.mk.injEq] at h;obtain⟨rfl,rfl⟩:=h;cases hd
  ·simp only[Option.some.injEq,Prod.mk.injEq] at h;obtain⟨rfl,rfl⟩:=h;cases hd
  ·simp only[Option.some.injEq,Prod.mk.injEq] at h;obtain⟨rfl,rfl⟩:=h;cases hd
theorem Bz4: ∀ {laid:List (String×DataW Unit)} {n:String} {d:DataW Unit},laidMet P laid w->(n,d)∈laid->
  ∃g t cs Dk p,P.globalNamed n=some g/\(P.globals[g]?).map (·.type)=some t/\w.var? P n=some cs/\DataW.trod (fun _=>()) P w 0 (fun _=>true) false Dk t cs.toList=some (d,p)/\
   ∀u v,w.cell? ⟨g,0,none⟩=some (.iface u v)->0<cs.size->Value.okWide P w .any 0 u v
 | [],_,_,_,hm=>by cases hm
 | x::laid,n,d,h,hm=>by
  rcases List.mem_cons.1 hm with rfl | hm
  ·obtain⟨ps,⟨g,t,cs,Dk,p,q,h1,h2,h3,h4,h5,h6⟩,_,h8⟩:=h;refine⟨g,t,cs,Dk,p,h1,h2,h3,h4,fun u v hc hz=>(h8 g 0 ?_).2 u v hc⟩;rw[h6];refine List.mem_append_left _ (List.mem_append_left _ ?_);unfold MemPlace.row;exact List.mem_map.2 ⟨0,List.mem_range.2 hz,by simp⟩
  ·exact Bz4 h.tail hm
def Fv3 (v:Value):Prop:=(∃b,v= .bool b)\/(∃k n,v= .int k n)\/ ∃s:List UInt8,v= .string ⟨⟨s⟩⟩
mutual
theorem Cm4: ∀(d:DataW Unit),Zh d=true-> ∀v∈Fh d,Fv3 v
 | .lit (.bool b),_,v,hv=>by simp [Fh] at hv;exact .inl ⟨b,hv⟩
 | .lit (.int k n),_,v,hv=>by simp [Fh] at hv;exact .inr (.inl ⟨k,n,hv⟩)
 | .lit (.string s),_,v,hv=>by simp [Fh] at hv;exact .inr (.inr ⟨s,hv⟩)
 | .agg ds,h,v,hv=>Bo9 ds (by simpa [Zh] using h) v (by simpa [Fh] using hv)
 | .lit (.float _ _),h,_,_=>by cases h
 | .nil,h,_,_=>by cases h
 | .ptr _,h,_,_=>by cases h
 | .slice _ _,h,_,_=>by cases h
 | .iface _ _,h,_,_=>by cases h
 | .map _,h,_,_=>by cases h
 | .held _,h,_,_=>by cases h
theorem Bo9: ∀(ds:List (DataW Unit)),Zh.litsBs ds=true-> ∀v∈Fh.litCellss ds,Fv3 v
 | [],_,v,hv=>by simp [Fh.litCellss] at hv
 | d::ds,h,v,hv=>by
  simp only[Zh.litsBs,jF] at h
  simp only[Fh.litCellss,List.mem_append] at hv
  rcases hv with hv | hv
  ·exact Cm4 d h.1 v hv
  ·exact Bo9 ds h.2 v hv
end
theorem Ek8 {Hp:Ab}: ∀(d:DataW Unit),Zh d=true->Be w Hp (Gw (Fh d)) (Fh d):=by
 have all: ∀(vs:List Value),(∀v∈vs,(∃b,v= .bool b)\/(∃k n,v= .int k n)\/ ∃s:List UInt8,v= .string ⟨⟨s⟩⟩)->Be w Hp (Gw vs) vs:=by
  intro vs
  induction vs with
  | nil=>intro _;simp [Gw,Be]
  | cons v vs ih=>
   intro h;simp only[Gw,Be];refine⟨v,vs,rfl, ?_,ih fun x hx=>h x (by simp [hx])⟩;rcases h v (by simp) with⟨b,rfl⟩ | ⟨k,n,rfl⟩ | ⟨s,rfl⟩<;>simp [Ee,Rel]
 exact fun d h=>all _ (Cm4 d h)
theorem Ek9 {laid:List (String×DataW Unit)} {n:String} {d:DataW Unit} {g:Nat} (hl:laidOutB P=true) (h:laidMet P laid w) (hm:(n,d)∈laid) (hd:Zh d=true) (hg:P.globalNamed n=some g)
  (hgt:isVar P (((P.globals[g]?).map (·.type)).getD 0)=true):Rel w (fun _=>none) (.vptr (Gw (Fh d)) 0) (.pointer (some ⟨g,0,none⟩)):=by
 obtain⟨g',t,cs,Dk,p,h1,h2,h3,h4,_⟩:=Bz4 h hm;rw[hg] at h1;cases h1;rw[h2] at hgt;have hc:=An4 hl Dk t cs.toList d p hgt hd h4;simp only[Rel];refine⟨g,0,cs.toList,rfl, ?_,by rw[hc];exact Ek8 d hd⟩;refine .inr ⟨rfl,fun i x hx=> ?_⟩;have:=World.var?_cell hg h3 i;rw[Nat.zero_add,this];simpa using hx
end
end Go.Dl

-- That no place of laid variables stands twice, found in one pass.
namespace Go.Dl
open Go Go.RowKit
def Um:List MemPlace->Nat->Bool
 | [],_=>true
 | .cell b off::l,m=>decide (off<1024)&&!(m.testBit (b*1024+off))&&Um l (m ||| 1<<<(b*1024+off))
 | .map _::_,_=>false
theorem Df9 {m k n:Nat} (h:(m ||| 1<<<k).testBit n=false):m.testBit n=false/\n≠k:=by
 rw[Nat.testBit_or,Bool.or_eq_false_iff] at h;refine⟨h.1,fun e=> ?_⟩;subst e;have:=h.2;rw[Nat.testBit_shiftLeft] at this;simp at this
theorem Aj0: ∀(l:List MemPlace) (m:Nat),Um l m=true->l.Nodup/\ ∀p∈l,∃b off,p= .cell b off/\off<1024/\m.testBit (b*1024+off)=false
 | [],_,_=>⟨List.nodup_nil,fun p hp=>by cases hp⟩
 | .map _::_,_,h=>by simp [Um] at h
 | .cell b off::l,m,h=>by
  simp only[Um,jF,decide_eq_true_eq,Bool.not_eq_true'] at h;obtain⟨⟨h1,h2⟩,h3⟩:=h;obtain⟨k1,k2⟩:=Aj0 l _ h3;refine⟨List.nodup_cons.2 ⟨fun hm=> ?_,k1⟩,fun p hp=> ?_⟩
  ·obtain⟨b',off',e,_,h5⟩:=k2 _ hm;cases e;exact(Df9 h5).2 rfl
  ·rcases List.mem_cons.1 hp with rfl | hp
   ·exact⟨b,off,rfl,h1,h2⟩
   ·obtain⟨b',off',e,h4,h5⟩:=k2 _ hp;exact⟨b',off',e,h4,(Df9 h5).1⟩
theorem Bz5 {P:Program} {w:World} {l:List (String×DataW Unit)} (Dk:Nat) (h:(DataW.laidRun P w Dk (l.map (·.1))).map (·.1)=some l)
  (hr:(DataW.laidRun P w Dk (l.map (·.1))).map (fun x=>Um x.2 0&&laidRowsB P w x.2)=some true):laidMet P l w:=by
 cases hx:DataW.laidRun P w Dk (l.map (·.1)) with
 | none=>simp [hx] at h
 | some x=>
  obtain⟨l',ps⟩:=x;simp only[hx,Option.map_some,Option.some.injEq] at h hr;subst h;simp only[jF] at hr;exact laidMet_of_run Dk hx (decide_eq_true (Aj0 _ _ hr.1).1) hr.2
end Go.Dl

-- Chapter 3: the reading of the package's variables; a world in which they hold what their text lays.
namespace Go.Dl
open Go Go.RowKit Go.Proofs Go.Proofs.YtlahodmjhbpfiaaGreatDoor
set_option maxRecDepth 100000
theorem Dg0:laidOutB Tryz.prog=true:=by kernel_rfl
theorem Cy9 {P:Program} {w:World} {laid:List (String×DataW Unit)} {n:String} {d:DataW Unit} {g:Nat} (hl:laidOutB P=true) (h:laidMet P laid w) (hm:(n,d)∈laid) (hd:Zh d=true) (hg:P.globalNamed n=some g)
  (hgt:isVar P (((P.globals[g]?).map (·.type)).getD 0)=true):Ny w.heap[g]? =some (Fh d).length:=by
 obtain⟨g',t,cs,Dk,p,h1,h2,h3,h4,_⟩:=Bz4 h hm;rw[hg] at h1;cases h1;rw[h2] at hgt;have hc:=An4 hl Dk t cs.toList d p hgt hd h4;unfold World.var? at h3;rw[hg] at h3;simp only[Option.bind_some] at h3;split at h3
 ·rename_i c t' fz ho
  cases h3;rw[ho];simp only[Ny,Option.some.injEq];rw[<-hc,Array.length_toList]
 ·cases h3
theorem Zi: ∀l:List Value,(Gw l).length=l.length
 | []=>rfl
 | _::l=>by simp [Gw,Zi l]
theorem Ew9:Gw (Fh Rows.laid_strings_asciiSpace)=Lib.asciiSpaceTab.map fun z=>DVal.int .u8 z:=by kernel_rfl
section
end
noncomputable def Fv4 (h:Array Obj) (g:Nat) (cs:Array Value):Array Obj:=h.modify g fun
 | .cells _ t frozen=> .cells cs t frozen
 | o=>o
theorem Fv5 {laid:List (String×DataW Unit)} {W:World} (hL:laidMetH Tryz.prog laid W) (hs:W.ShapedOpen Tryz.prog) (hh:(laid.filter fun x=>x.2.handleName?.isSome)= [])
  (m5:("strings.asciiSpace",Rows.laid_strings_asciiSpace)∈laid): ∃G,GX G/\GOk G W (fun _=>none):=by
 have hL':laidMet Tryz.prog laid W:=by
  unfold laidMetH at hL;rw[hh] at hL;exact hL
 have r5:=Ek9 Dg0 hL' m5 (by kernel_rfl) (show Tryz.prog.globalNamed "strings.asciiSpace" =some 1 by kernel_rfl) (by kernel_rfl);have x5:=Cy9 Dg0 hL' m5 (by kernel_rfl) (show Tryz.prog.globalNamed "strings.asciiSpace" =some 1 by kernel_rfl) (by kernel_rfl);refine⟨fun g=>if g=1 then .vptr (Gw (Fh Rows.laid_strings_asciiSpace)) 0 else .optr g 0,⟨by simp [Ew9]⟩,⟨fun g=> ?_,fun g cs e=> ?_⟩⟩
 ·show Rel W _ (if g=_ then _ else _) _;split
  ·rename_i e;subst e;exact r5
  ·simp [Rel]
 ·change (if g=_ then _ else _)=_ at e;split at e
  ·rename_i e';subst e';cases e;rw[x5,Zi]
  ·cases e
noncomputable def Bz6 (os:Os):World:=
 let N:=(World.settled Tryz.prog os).heap.size
 let w0:=World.holding Tryz.prog os ⟨#[.cells #[.slice (some ⟨N+1,0,none⟩) 7 7, .slice none 0 0, .int .i64 2] 379,
  .cells (#[9,13,1,32,133,101,160,5760,5600,8192,8202,1,8232,8233,1,8239,8287,48,12288,12288,1].map (Value.int .u16)) 382], #[],[]⟩
 let h9:=Fv4 w0.heap 1 (Fh Rows.laid_strings_asciiSpace).toArray
 let ha:=Fv4 h9 2 #[.pointer (some ⟨N,0,none⟩)]
 { w0 with heap:=ha }
def Zj:Array Value:= #[.int .u8 0, .int .u8 0, .int .i64 0, .string ⟨#[]⟩, .slice none 0 0, .slice none 0 0, .int .i64 0, .int .i64 0, .int .i64 0]
def Fm3 {H:Type}:List (DataW H):= [.lit (.int .u8 0), .lit (.int .u8 0), .lit (.int .i64 0), .lit (.string []), .nil, .nil, .lit (.int .i64 0), .lit (.int .i64 0), .lit (.int .i64 0)]
section
end
end Go.Dl

-- Chapter 4: zero forms.
namespace Go.Dl
open Go Go.RowKit
def Fv6:Array Value:=Zj++Zj++Zj++Zj
def Fv7:Array Value:=Zj++Zj++Zj
def Fz5:Array Value:= #[.int .u8 0, .slice none 0 0]++Zj++Zj++Fv6++Fv7++ #[.slice none 0 0, .string ⟨#[]⟩, .slice none 0 0, .bool false]
def Ex0:Array Value:=Zj++Fv6++Fv7++ #[.slice none 0 0, .slice none 0 0, .slice none 0 0]++Fz5
def Bi2 {H:Type}:DataW H:= .agg Fm3
def Fa9 {H:Type}:DataW H:= .agg [Bi2,Bi2,Bi2,Bi2]
def Fb0 {H:Type}:DataW H:= .agg [Bi2,Bi2,Bi2]
def Fv8 {H:Type}:DataW H:= .agg [.lit (.int .u8 0), .nil,Bi2,Bi2,Fa9,Fb0, .nil, .lit (.string []), .nil, .lit (.bool false)]
def Fv9 {H:Type}:List (DataW H):= [Bi2,Fa9,Fb0, .nil, .nil, .nil,Fv8]
end Go.Dl
