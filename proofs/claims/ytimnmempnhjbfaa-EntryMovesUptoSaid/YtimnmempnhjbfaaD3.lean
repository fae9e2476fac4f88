/-
  THE DATA LEVEL, PART 3: plans run by simp.
-/
import Derived.Test.YtimnmempnhjbfaaD2
set_option linter.unusedSimpArgs false
set_option linter.unusedVariables false
namespace Go.Dl
open Go
attribute [go_sem] operAt.eq_1 operAt.eq_2 operAt.eq_3 dGuardK.eq_1 dGuardK.eq_2 dGuardK.eq_3 dGuardK.eq_4 dGuardKO.eq_1 dOne.eq_1 dOne.eq_2 dAt.eq_1 keepAt.eq_1 keepO.eq_1 keepO.eq_2 lookAtO.eq_1 lookOp.eq_1 lookOp.eq_2 keepL.eq_1 keepL.eq_2 dplan.eq_1 dplan.eq_2 dplan.eq_3 dplan.eq_4 QP.eq_1 QP.eq_2
attribute [go_sem] KeepK
section
variable (v : DVal) (H H' : DHeap)
@[go_sem] theorem keepAt_vptr (cs : List DVal) (o : Nat) : keepAt H H' (.vptr cs o) = True := rfl
@[go_sem] theorem keepAt_vslice (cs : List DVal) (o : Nat) : keepAt H H' (.vslice cs o) = True := rfl
@[go_sem] theorem keepAt_oslice (a b c d e : Nat) : keepAt H H' (.oslice a b c d e) = True := rfl
@[go_sem] theorem keepAt_nilSlice : keepAt H H' .nilSlice = True := rfl
@[go_sem] theorem keepAt_str (s : List UInt8) : keepAt H H' (.str s) = True := rfl
end

end Go.Dl
