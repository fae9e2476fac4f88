/-
  No cell of these rows narrows 'for every input' (looked for: loops, veiled, ifaces, maps, wideKeys, modest, calm, conditions, laid).
  DERIVED. THE GIVEN ROWS OF THIS SEAT. 7 by the template 'for every input the law returns true; each argument reads behind the call as it read before'; 0 by the template 'total and deterministic' (their statements: YtimnmempnhjbfaaTotals.lean).
  GIVEN WITH THE SEED: the statements are not yours to turn. If you find one false, say at which input.
  Laid BY PROGRAM, IN A SANDBOX (cutbox-rows.mjs): the forced cells as the released guide's own fill.sh prints them over the translation 0d9370d300707954… (all of the seat's roots in one cut). By AI agents, Wed Nov 11 2026. No macro, syntax, notation, axiom, sorry.
-/
import Derived.Test.YtimnmempnhjbfaaChecked
import GoSem.Claim
import GoSem.ClaimJoined
import GoSem.ClaimMapViews
import Derived.JoinedTies
import Derived.KernelRfl
namespace Go.Proofs.Ytimnmempnhjbfaa
/- THE CELL 'sum', in the pinned program and in every row, IS THE sha256 OF THE DUMP (.gsa) THAT YtimnmempnhjbfaaProg.lean LOADS. Nothing in Lean hashes anything: it is a label: what it is worth is what the hold of that sum in a sandbox is worth. -/
noncomputable def Try.pinned : Pinned := { name := "ytimnmempnhjbfaa", sum := "0d9370d30070795458d51fc6abc5b639984391527634b7928903e2c7553754d5", checked := Try.checked }
namespace Rows
def none {H : Type} : Left H := { results := [], args := [] }

/-- 'ceilinglaw31.EntryMoves': WHATEVER THE INPUT: true; the input reads as it did. -/
def entryMovesSpec : ChangeSpec := { name := "entryMoves", fn := fun _ => fun
  | [d1, d2, d3] => { results := [.lit (.bool true)], args := [d1, d2, d3] }
  | _ => none }
def entryMovesRow : OpenClaim := { program := "ytimnmempnhjbfaa", sum := "0d9370d30070795458d51fc6abc5b639984391527634b7928903e2c7553754d5", func := "ceiling/ceilinglaw31.EntryMoves", spec := "entryMoves", unfollowed := true, recurses := true, apart := false }
def EntryMovesSaid : Prop := entryMovesRow.holds Try.pinned (OpenSpec.ofChange entryMovesSpec)

/-- ITS FALSE NEIGHBOUR: 'it returns false'. Refute it at one input. -/
def entryMovesWrong : ChangeSpec := { name := "entryMoves", fn := fun _ => fun
  | [d1, d2, d3] => { results := [.lit (.bool false)], args := [d1, d2, d3] }
  | _ => none }
def EntryMovesWrongFalsely : Prop := entryMovesRow.holds Try.pinned (OpenSpec.ofChange entryMovesWrong)

/-- 'ceilinglaw31.EntryFinds': WHATEVER THE INPUT: true; the input reads as it did. -/
def entryFindsSpec : ChangeSpec := { name := "entryFinds", fn := fun _ => fun
  | [d1, d2, d3, d4] => { results := [.lit (.bool true)], args := [d1, d2, d3, d4] }
  | _ => none }
def entryFindsRow : OpenClaim := { program := "ytimnmempnhjbfaa", sum := "0d9370d30070795458d51fc6abc5b639984391527634b7928903e2c7553754d5", func := "ceiling/ceilinglaw31.EntryFinds", spec := "entryFinds", unfollowed := true, recurses := true, apart := false }
def EntryFindsSaid : Prop := entryFindsRow.holds Try.pinned (OpenSpec.ofChange entryFindsSpec)

/-- ITS FALSE NEIGHBOUR: 'it returns false'. Refute it at one input. -/
def entryFindsWrong : ChangeSpec := { name := "entryFinds", fn := fun _ => fun
  | [d1, d2, d3, d4] => { results := [.lit (.bool false)], args := [d1, d2, d3, d4] }
  | _ => none }
def EntryFindsWrongFalsely : Prop := entryFindsRow.holds Try.pinned (OpenSpec.ofChange entryFindsWrong)

/-- 'ceilinglaw31.EntryBack': WHATEVER THE INPUT: true; the input reads as it did. -/
def entryBackSpec : ChangeSpec := { name := "entryBack", fn := fun _ => fun
  | [d1, d2, d3] => { results := [.lit (.bool true)], args := [d1, d2, d3] }
  | _ => none }
def entryBackRow : OpenClaim := { program := "ytimnmempnhjbfaa", sum := "0d9370d30070795458d51fc6abc5b639984391527634b7928903e2c7553754d5", func := "ceiling/ceilinglaw31.EntryBack", spec := "entryBack", unfollowed := true, recurses := true, apart := false }
def EntryBackSaid : Prop := entryBackRow.holds Try.pinned (OpenSpec.ofChange entryBackSpec)

/-- ITS FALSE NEIGHBOUR: 'it returns false'. Refute it at one input. -/
def entryBackWrong : ChangeSpec := { name := "entryBack", fn := fun _ => fun
  | [d1, d2, d3] => { results := [.lit (.bool false)], args := [d1, d2, d3] }
  | _ => none }
def EntryBackWrongFalsely : Prop := entryBackRow.holds Try.pinned (OpenSpec.ofChange entryBackWrong)

/-- 'ceilinglaw31.EntryOrder': WHATEVER THE INPUT: true; the input reads as it did. -/
def entryOrderSpec : ChangeSpec := { name := "entryOrder", fn := fun _ => fun
  | [d1, d2] => { results := [.lit (.bool true)], args := [d1, d2] }
  | _ => none }
def entryOrderRow : OpenClaim := { program := "ytimnmempnhjbfaa", sum := "0d9370d30070795458d51fc6abc5b639984391527634b7928903e2c7553754d5", func := "ceiling/ceilinglaw31.EntryOrder", spec := "entryOrder", unfollowed := true, recurses := true, apart := false }
def EntryOrderSaid : Prop := entryOrderRow.holds Try.pinned (OpenSpec.ofChange entryOrderSpec)

/-- ITS FALSE NEIGHBOUR: 'it returns false'. Refute it at one input. -/
def entryOrderWrong : ChangeSpec := { name := "entryOrder", fn := fun _ => fun
  | [d1, d2] => { results := [.lit (.bool false)], args := [d1, d2] }
  | _ => none }
def EntryOrderWrongFalsely : Prop := entryOrderRow.holds Try.pinned (OpenSpec.ofChange entryOrderWrong)

/-- 'ceilinglaw32.LockReleases': WHATEVER THE INPUT: true; the input reads as it did. -/
def lockReleasesSpec : ChangeSpec := { name := "lockReleases", fn := fun _ => fun
  | [d1, d2, d3] => { results := [.lit (.bool true)], args := [d1, d2, d3] }
  | _ => none }
def lockReleasesRow : OpenClaim := { program := "ytimnmempnhjbfaa", sum := "0d9370d30070795458d51fc6abc5b639984391527634b7928903e2c7553754d5", func := "ceiling/ceilinglaw32.LockReleases", spec := "lockReleases", unfollowed := true, recurses := true, apart := false }
def LockReleasesSaid : Prop := lockReleasesRow.holds Try.pinned (OpenSpec.ofChange lockReleasesSpec)

/-- ITS FALSE NEIGHBOUR: 'it returns false'. Refute it at one input. -/
def lockReleasesWrong : ChangeSpec := { name := "lockReleases", fn := fun _ => fun
  | [d1, d2, d3] => { results := [.lit (.bool false)], args := [d1, d2, d3] }
  | _ => none }
def LockReleasesWrongFalsely : Prop := lockReleasesRow.holds Try.pinned (OpenSpec.ofChange lockReleasesWrong)

/-- 'ceilinglaw32.LockFree': WHATEVER THE INPUT: true; the input reads as it did. -/
def lockFreeSpec : ChangeSpec := { name := "lockFree", fn := fun _ => fun
  | [d1, d2, d3, d4] => { results := [.lit (.bool true)], args := [d1, d2, d3, d4] }
  | _ => none }
def lockFreeRow : OpenClaim := { program := "ytimnmempnhjbfaa", sum := "0d9370d30070795458d51fc6abc5b639984391527634b7928903e2c7553754d5", func := "ceiling/ceilinglaw32.LockFree", spec := "lockFree", unfollowed := true, recurses := true, apart := false }
def LockFreeSaid : Prop := lockFreeRow.holds Try.pinned (OpenSpec.ofChange lockFreeSpec)

/-- ITS FALSE NEIGHBOUR: 'it returns false'. Refute it at one input. -/
def lockFreeWrong : ChangeSpec := { name := "lockFree", fn := fun _ => fun
  | [d1, d2, d3, d4] => { results := [.lit (.bool false)], args := [d1, d2, d3, d4] }
  | _ => none }
def LockFreeWrongFalsely : Prop := lockFreeRow.holds Try.pinned (OpenSpec.ofChange lockFreeWrong)

/-- 'ceilinglaw32.LockSteps': WHATEVER THE INPUT: true; the input reads as it did. -/
def lockStepsSpec : ChangeSpec := { name := "lockSteps", fn := fun _ => fun
  | [d] => { results := [.lit (.bool true)], args := [d] }
  | _ => none }
def lockStepsRow : OpenClaim := { program := "ytimnmempnhjbfaa", sum := "0d9370d30070795458d51fc6abc5b639984391527634b7928903e2c7553754d5", func := "ceiling/ceilinglaw32.LockSteps", spec := "lockSteps", unfollowed := true, recurses := true, apart := false }
def LockStepsSaid : Prop := lockStepsRow.holds Try.pinned (OpenSpec.ofChange lockStepsSpec)

/-- ITS FALSE NEIGHBOUR: 'it returns false'. Refute it at one input. -/
def lockStepsWrong : ChangeSpec := { name := "lockSteps", fn := fun _ => fun
  | [d] => { results := [.lit (.bool false)], args := [d] }
  | _ => none }
def LockStepsWrongFalsely : Prop := lockStepsRow.holds Try.pinned (OpenSpec.ofChange lockStepsWrong)

/- THE SECOND FORM. 'bulk': how many values and letters a reading holds, each counted each time it is reached (what is shared counts as often as it is met; a slice's spare places count too). A statement '..UptoSaid' is the law's where the arguments, and the package variables that the reading takes, are together of bulk at most 1048576: NARROWER than '..Said'. Prove '..Said' where nothing that the law and all that it calls make is longer than what came in: it says more and counts as full. Else prove '..UptoSaid'. A law counts once. -/
mutual
def uptoBulk {H : Type} : DataW H → Nat
  | .lit (.string bytes) => bytes.length + 1
  | .lit _ => 1
  | .nil => 1
  | .ptr d => uptoBulk d + 1
  | .slice elems spare => uptoBulkAll elems + uptoBulkAll spare + 1
  | .agg parts => uptoBulkAll parts + 1
  | .iface _ d => uptoBulk d + 1
  | .map entries => uptoBulkEntries entries + 1
  | .held _ => 1
def uptoBulkAll {H : Type} : List (DataW H) → Nat
  | [] => 0
  | d :: r => uptoBulk d + uptoBulkAll r
def uptoBulkEntries {H : Type} : List (Lit × DataW H) → Nat
  | [] => 0
  | x :: r => uptoBulkEntry x + uptoBulkEntries r
def uptoBulkEntry {H : Type} : Lit × DataW H → Nat
  | (.string bytes, d) => bytes.length + uptoBulk d + 1
  | (_, d) => uptoBulk d + 1
 end
def uptoSmall : (H : Type) → List (DataW H) → Bool := fun _ ds => decide (uptoBulkAll ds ≤ 1048576)
def OpenSpec.upto (s : _root_.Go.ChangeSpec) : _root_.Go.OpenSpec := { _root_.Go.OpenSpec.ofChange s with cond := some uptoSmall }

/-- 'ceilinglaw31.EntryMoves', WHERE WHAT IT READS IS OF BULK AT MOST 1048576: true; the input reads as it did. -/
def entryMovesUptoRow : OpenClaim := { program := "ytimnmempnhjbfaa", sum := "0d9370d30070795458d51fc6abc5b639984391527634b7928903e2c7553754d5", func := "ceiling/ceilinglaw31.EntryMoves", spec := "entryMoves", unfollowed := true, recurses := true, apart := false, narrowed := true }
def EntryMovesUptoSaid : Prop := entryMovesUptoRow.holds Try.pinned (OpenSpec.upto entryMovesSpec)

/-- 'ceilinglaw31.EntryFinds', WHERE WHAT IT READS IS OF BULK AT MOST 1048576: true; the input reads as it did. -/
def entryFindsUptoRow : OpenClaim := { program := "ytimnmempnhjbfaa", sum := "0d9370d30070795458d51fc6abc5b639984391527634b7928903e2c7553754d5", func := "ceiling/ceilinglaw31.EntryFinds", spec := "entryFinds", unfollowed := true, recurses := true, apart := false, narrowed := true }
def EntryFindsUptoSaid : Prop := entryFindsUptoRow.holds Try.pinned (OpenSpec.upto entryFindsSpec)

/-- 'ceilinglaw31.EntryBack', WHERE WHAT IT READS IS OF BULK AT MOST 1048576: true; the input reads as it did. -/
def entryBackUptoRow : OpenClaim := { program := "ytimnmempnhjbfaa", sum := "0d9370d30070795458d51fc6abc5b639984391527634b7928903e2c7553754d5", func := "ceiling/ceilinglaw31.EntryBack", spec := "entryBack", unfollowed := true, recurses := true, apart := false, narrowed := true }
def EntryBackUptoSaid : Prop := entryBackUptoRow.holds Try.pinned (OpenSpec.upto entryBackSpec)

/-- 'ceilinglaw31.EntryOrder', WHERE WHAT IT READS IS OF BULK AT MOST 1048576: true; the input reads as it did. -/
def entryOrderUptoRow : OpenClaim := { program := "ytimnmempnhjbfaa", sum := "0d9370d30070795458d51fc6abc5b639984391527634b7928903e2c7553754d5", func := "ceiling/ceilinglaw31.EntryOrder", spec := "entryOrder", unfollowed := true, recurses := true, apart := false, narrowed := true }
def EntryOrderUptoSaid : Prop := entryOrderUptoRow.holds Try.pinned (OpenSpec.upto entryOrderSpec)

/-- 'ceilinglaw32.LockReleases', WHERE WHAT IT READS IS OF BULK AT MOST 1048576: true; the input reads as it did. -/
def lockReleasesUptoRow : OpenClaim := { program := "ytimnmempnhjbfaa", sum := "0d9370d30070795458d51fc6abc5b639984391527634b7928903e2c7553754d5", func := "ceiling/ceilinglaw32.LockReleases", spec := "lockReleases", unfollowed := true, recurses := true, apart := false, narrowed := true }
def LockReleasesUptoSaid : Prop := lockReleasesUptoRow.holds Try.pinned (OpenSpec.upto lockReleasesSpec)

/-- 'ceilinglaw32.LockFree', WHERE WHAT IT READS IS OF BULK AT MOST 1048576: true; the input reads as it did. -/
def lockFreeUptoRow : OpenClaim := { program := "ytimnmempnhjbfaa", sum := "0d9370d30070795458d51fc6abc5b639984391527634b7928903e2c7553754d5", func := "ceiling/ceilinglaw32.LockFree", spec := "lockFree", unfollowed := true, recurses := true, apart := false, narrowed := true }
def LockFreeUptoSaid : Prop := lockFreeUptoRow.holds Try.pinned (OpenSpec.upto lockFreeSpec)

/-- 'ceilinglaw32.LockSteps', WHERE WHAT IT READS IS OF BULK AT MOST 1048576: true; the input reads as it did. -/
def lockStepsUptoRow : OpenClaim := { program := "ytimnmempnhjbfaa", sum := "0d9370d30070795458d51fc6abc5b639984391527634b7928903e2c7553754d5", func := "ceiling/ceilinglaw32.LockSteps", spec := "lockSteps", unfollowed := true, recurses := true, apart := false, narrowed := true }
def LockStepsUptoSaid : Prop := lockStepsUptoRow.holds Try.pinned (OpenSpec.upto lockStepsSpec)

end Rows
end Go.Proofs.Ytimnmempnhjbfaa
